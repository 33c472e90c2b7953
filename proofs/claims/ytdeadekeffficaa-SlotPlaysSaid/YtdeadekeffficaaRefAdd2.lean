/- psephosref12.Add: where none of that node is there. -/
import Derived.Test.YtdeadekeffficaaRefAdd
namespace Go.Proofs.Ytdeadekeffficaa
open Go.RowKit Go.Heap

def AddYes (w : World) (l : List Rv) (a : Nat) (r : Rv) (e : Ending) (w' : World) : Prop :=
  ∃ u, e = .returned (.tuple #[u, .bool true]) ∧ Below w.heap.size w w' ∧ RVs w' u (l.take a ++ r :: l.drop a) ∧ ∀ k ∈ blkOf u, w.heap.size ≤ k ∧ k < w'.heap.size

theorem rvs_of_own {w w0 : World} {B n cap g : Nat} {l : List Rv} (hn : l.length = n) (h : w.ownsRow B 113 3 (.slice (some ⟨g, 0, none⟩) n cap) n (l.flatMap rvCells)) (hb : ∀ r ∈ l, Bat w0 r.b r.rs ∧ r.rs.length ≤ 100000) (hu : Upd [] w0 w) : RVs w (.slice (some ⟨g, 0, none⟩) n cap) l := by
  subst hn
  exact ⟨Reads.of_own h, fun r hr => ⟨(hb r hr).1.upd hu (by simp), (hb r hr).2⟩⟩

theorem rvs_take {w : World} {b o n cap : Nat} {l : List Rv} (h : RVs w (.slice (some ⟨b, o, none⟩) n cap) l) (a : Nat) (ha : a ≤ l.length) : ∀ j u, ((l.take a).flatMap rvCells)[j]? = some u → w.cell? ((⟨b, o, none⟩ : Addr).add j) = some u := by
  intro j u hj
  have hl := (List.getElem?_eq_some_iff.1 hj).1
  rw [rv_len, List.length_take, Nat.min_eq_left ha] at hl
  rw [Go.WideShapes.add_plain, rvs_cell h j (by omega)]
  rw [← List.take_append_drop a l, List.flatMap_append, List.getElem?_append_left (by rw [rv_len, List.length_take, Nat.min_eq_left ha]; exact hl)]
  exact hj

theorem rvs_drop {w : World} {b o n cap : Nat} {l : List Rv} (h : RVs w (.slice (some ⟨b, o, none⟩) n cap) l) (a : Nat) (ha : a ≤ l.length) : ∀ j u, ((l.drop a).flatMap rvCells)[j]? = some u → w.cell? ((⟨b, o + a * 3, none⟩ : Addr).add j) = some u := by
  intro j u hj
  have hl := (List.getElem?_eq_some_iff.1 hj).1
  rw [rv_len, List.length_drop] at hl
  rw [Go.WideShapes.add_plain, Nat.add_assoc, rvs_cell h (a * 3 + j) (by omega)]
  rw [← List.take_append_drop a l, List.flatMap_append, List.getElem?_append_right (by rw [rv_len, List.length_take, Nat.min_eq_left ha]; omega), rv_len, List.length_take, Nat.min_eq_left ha]
  rw [show a * 3 + j - a * 3 = j by omega]
  exact hj

theorem one_news {w : World} {x y z : Value} {T : TypeId} : ∀ j u, [x, y, z][j]? = some u → (w.alloc (.cells #[x, y, z] T)).cell? ((⟨w.heap.size, 0, none⟩ : Addr).add j) = some u := by
  intro j u hj
  rw [Go.WideShapes.add_plain, block_cell (heap_alloc_new w _), Nat.zero_add]
  simpa using hj

theorem one_cells {a b : Int} {bo : Option Addr} {n c : Nat} : ∀ u ∈ [Value.int .i64 a, .int .i64 b, .slice bo n c], u.oneCell' = true := by
  intro u hu
  simp only [List.mem_cons, List.not_mem_nil, or_false] at hu
  rcases hu with rfl | rfl | rfl <;> rfl

theorem own_le {w : World} {B E sz g n cap : Nat} {xs : List Value} (h : w.ownsRow B E sz (.slice (some ⟨g, 0, none⟩) n cap) n xs) : n ≤ cap := by
  rcases h.2 with ⟨h', _⟩ | ⟨g', cap', cur, h', _, _, hnc, _⟩
  · simp at h'
  · simp only [Value.slice.injEq] at h'
    omega

theorem flat_take {l : List Rv} {a : Nat} (u : Value) (hu : u ∈ (l.take a).flatMap rvCells) : u ∈ l.flatMap rvCells := by
  simp only [List.mem_flatMap] at hu ⊢
  obtain ⟨r, hr, h⟩ := hu
  exact ⟨r, List.mem_of_mem_take hr, h⟩

theorem flat_drop {l : List Rv} {a : Nat} (u : Value) (hu : u ∈ (l.drop a).flatMap rvCells) : u ∈ l.flatMap rvCells := by
  simp only [List.mem_flatMap] at hu ⊢
  obtain ⟨r, hr, h⟩ := hu
  exact ⟨r, List.mem_of_mem_drop hr, h⟩

set_option maxHeartbeats 2000000 in
set_option maxRecDepth 100000 in
theorem add_yes (v bv : Value) (l : List Rv) (node sl : Int) (rs : List Rq) (w : World) (hn : l.length ≤ 1000) (hv : RVs w v l) (hb : Bat w bv rs) (hrs : rs.length ≤ 100000) (a : Nat) (ha : a ≤ l.length)
    (hdn : ∀ i (hi : i < l.length), i < a → l[i].node < node) (hup : ∀ i (hi : i < l.length), a ≤ i → node < l[i].node) :
    Calls Try.prog 61 #[v, .agg #[.int .i64 node, .int .i64 sl, bv]] w (AddYes w l a ⟨node, sl, bv, rs⟩) := by
  obtain ⟨i0, hi, hz0, hz1, hz2⟩ := info_parts Try.infoRv
  obtain ⟨ao, cap, rfl, hl1, hl2, -⟩ := hv.1
  have hb0 := hb
  obtain ⟨bo, bcap, rfl⟩ := bat_form hb
  have hmx : l.length ≤ cap := hl1
  have hmc : cap ≤ 9223372036854775807 := by unfold maxLen at hl2; omega
  clear hl1 hl2
  have HV := Lib.hid hv
  have HUP := Lib.hid hup
  have HDN := Lib.hid hdn
  have HBT := Lib.hid hb0
  clear hv hup hdn hb hb0
  go_enter Try.func61, Try.ntmps61
  have HB := Lib.hid (show (w.alloc (.cells #[.int .i64 node, .int .i64 sl, .slice bo rs.length bcap] 113)).heap[w.heap.size]? = _ from heap_alloc_new w _)
  go_upto_block 0 with fail
  go_cut [6] (fun i wx => i = .int .i64 a ∧ Below w.heap.size w wx ∧ Hid (wx.heap[w.heap.size]? = some (.cells #[.int .i64 node, .int .i64 sl, .slice bo rs.length bcap] 113 (0, 0))))
  case first =>
    go_wp2_with fail
    go_loopw [6] (fun i wr => ∃ k : Nat, a ≤ k ∧ k ≤ l.length ∧ i = .int .i64 k ∧ Below w.heap.size w wr ∧ Hid (wr.heap[w.heap.size]? = some (.cells #[.int .i64 node, .int .i64 sl, .slice bo rs.length bcap] 113 (0, 0)))) (fun i _ => (intOf i).toNat)
    case atStart => exact ⟨l.length, by omega, by omega, rfl, (Below.refl _ _).alloc (Nat.le_refl _) _, HB⟩
    case round =>
      clear HB
      obtain ⟨k, hk, hkl, rfl, hbel, hbox⟩ := hrel
      have hz := hbel.size
      by_cases hk0 : k = 0
      · have ha0 : a = 0 := by omega
        subst hk0
        subst ha0
        go_wp2_with fail
        refine Mix.wp_text2 (by kernel_rfl) (by kernel_rfl) ?_
        go_wp2_with fail
        refine ⟨by rfl, ?_⟩
        go_wp2_with fail
        go_meet
        exact ⟨rfl, hbel.drew, hbox⟩
      have hvr := HV.out.upd0 (Upd.of_below hbel)
      obtain ⟨-, b, o, rfl, hbs, c0, -⟩ := hvr.at (k - 1) (by omega)
      have x0 : wr.cell? ⟨w.heap.size, 0, none⟩ = some (.int .i64 node) := by rw [block_cell hbox.out]; rfl
      have hk1 : (k : Int) - 1 = ((k - 1 : Nat) : Int) := by omega
      have hsub : IntKind.i64.wrap ((k : Int) - 1) = ((k - 1 : Nat) : Int) := by rw [hk1]; exact IntWalk.i64_in _ (by omega)
      have hk0 : (0 : Int) < (k : Int) := by omega
      clear hvr
      by_cases hka : k = a
      · subst hka
        have hlt := HDN.out (k - 1) (by omega) (by omega)
        generalize l[k - 1].node = nd at *
        have hge : ¬ node ≤ nd := by omega
        have hgb : decide (node ≤ nd) = false := by simp; omega
        go_wp2_with fail
        refine Mix.wp_text2 (by kernel_rfl) (by kernel_rfl) ?_
        go_wp2_with fail
        refine ⟨by rfl, ?_⟩
        go_wp2_with fail
        go_meet
        exact ⟨rfl, hbel.drew, hbox⟩
      · have hlt := HUP.out (k - 1) (by omega) (by omega)
        generalize l[k - 1].node = nd at *
        have hne : (nd == node) = false := by simp; omega
        have hge : node ≤ nd := by omega
        go_wp2_with fail
        refine Mix.wp_text2 (by kernel_rfl) (by kernel_rfl) ?_
        go_wp2_with fail
        refine ⟨by rfl, ?_⟩
        go_wp2_with fail
        refine Mix.wp_text2 (by kernel_rfl) (by kernel_rfl) ?_
        go_wp2_with fail
        refine ⟨by rfl, ?_⟩
        go_wp2_with fail
        go_roundw
        case rel => exact ⟨k - 1, by omega, by omega, by go_num, hbel.drew.drew, hbox⟩
        case measure => simp [intOf]; omega
  case rest =>
    obtain ⟨rfl, hbel, hbox⟩ := hcut
    clear HB HUP HDN
    have hz := hbel.size
    have hvr := HV.out.upd0 (Upd.of_below hbel)
    have HVR := Lib.hid hvr
    have HONE := Lib.hid (rv_one hvr)
    have HUX := Lib.hid (Upd.of_below (M := []) hbel)
    have lb := block_lt hbox.out
    have hz2' : wc.heap.size ≥ w.heap.size + 1 := by omega

    by_cases ha0 : a = 0
    · clear hvr
      subst ha0
      cases ao with
      | none =>
        obtain ⟨_, cp, he, _, _, _, hnil, _⟩ := HV.out.1
        simp only [Value.slice.injEq] at he
        obtain ⟨rfl, -, rfl⟩ := he
        obtain ⟨hl0, hc0⟩ := hnil rfl
        subst hc0
        have hln : ¬ 0 < l.length := by omega
        have hllI : (l.length : Int) = 0 := by omega
        have hu1 : Upd [] wc wc := Upd.refl _ _
        have HO1 := Lib.hid (World.ownsRow_nil (wc.alloc (.cells #[.int .i64 node, .int .i64 sl, .slice bo rs.length bcap] 113)) w.heap.size 113 3)
        have hbx1 : wc.heap[w.heap.size]? = some (.cells #[.int .i64 node, .int .i64 sl, .slice bo rs.length bcap] 113) := (hu1.block _ lb (by simp)).trans hbox.out
        have x0 : wc.cell? ⟨w.heap.size, 0, none⟩ = some (.int .i64 node) := by rw [block_cell hbx1]; rfl
        have x1 : wc.cell? ⟨w.heap.size, 1, none⟩ = some (.int .i64 sl) := by rw [block_cell hbx1]; rfl
        have x2 : wc.cell? ⟨w.heap.size, 2, none⟩ = some (.slice bo rs.length bcap) := by rw [block_cell hbx1]; rfl
        have hs1 := hu1.size
        go_wp2_with (at_builtin; refine wpList_append_lies _ rfl (.tmp 39) (.tmp 41) 57 rfl w.heap.size 113 i0 (.agg #[.int .i64 0, .int .i64 0, .slice none 0 0]) 3 40 Try.underlying57 hi hz0 hz1 hz2 rfl (by decide) (.slice none 0 0) 0 [] rfl HO1.out ⟨wc.heap.size, 0, none⟩ 1 1 [.int .i64 node, .int .i64 sl, .slice bo rs.length bcap] rfl rfl one_news one_cells (by decide) (by unfold maxLen; omega) (by omega) (by simp; omega) (wc.heap.size + 1) (by simp) ?d6v1)
        case d6v1 =>
        intro g2 cap2 w2 hown2 hgrow2 hat2 hlt2
        have hu2 : Upd [] wc w2 := (hu1.alloc (.cells #[.int .i64 node, .int .i64 sl, .slice bo rs.length bcap] 113)).grown hgrow2 (by intro k hk; cases hk)
        have hs2 := hu2.size
        have hg2 : wc.heap.size ≤ g2 := by rcases hat2 with h | h <;> first | (simp [Value.ownBlock] at h; omega) | omega | (simp [Value.ownBlock] at h)
        have hcap2 : 0 + 1 ≤ cap2 := own_le hown2
        have HO2 := Lib.hid hown2
        clear hown2 hat2 hgrow2
        have hbats : ∀ r ∈ l.take 0 ++ (⟨node, sl, .slice bo rs.length bcap, rs⟩ : Rv) :: l.drop 0, Bat w r.b r.rs ∧ r.rs.length ≤ 100000 := by
          intro r hr
          rcases List.mem_append.1 hr with h | h
          · exact HV.out.2 r (List.mem_of_mem_take h)
          · rcases List.mem_cons.1 h with rfl | h
            · exact ⟨HBT.out, hrs⟩
            · exact HV.out.2 r (List.mem_of_mem_drop h)
        have HBS := Lib.hid hbats
        clear hbats
        have hla : l.length = 0 := by omega
        have hl : l = [] := List.eq_nil_of_length_eq_zero (by omega)
        have hcells : (l.take 0 ++ (⟨node, sl, .slice bo rs.length bcap, rs⟩ : Rv) :: l.drop 0).flatMap rvCells = [.int .i64 node, .int .i64 sl, .slice bo rs.length bcap] := by rw [hl]; rfl
        have hlen : (l.take 0 ++ (⟨node, sl, .slice bo rs.length bcap, rs⟩ : Rv) :: l.drop 0).length = 1 := by rw [hl]; rfl
        have hown2 := HO2.out
        rw [← hcells] at hown2
        have HO3 := Lib.hid (rvs_of_own hlen hown2 HBS.out (HUX.out.trans hu2))
        clear hcells hlen hown2
        have hlI : (0 : Int) ≤ (l.length : Int) := by omega
        have hst : ∀ (ad : Addr) (wx : World), (storeCells ad []).run Try.prog wx = .ok () wx := fun ad wx => by simp [storeCells]
        · go_wp2_with fail
          go_ret2
          exact ⟨_, rfl, hbel.trans (hu2.below.mono hz), HO3.out, by simp [blkOf]; omega⟩
      | some ad =>
        by_cases hpos : 0 < l.length
        · have hvr := HVR.out
          obtain ⟨-, b, o, hbo, hbs, -⟩ := hvr.at 0 hpos
          simp only [Option.some.injEq] at hbo
          subst hbo
          clear hvr
          have hu1 : Upd [] wc wc := Upd.refl _ _
          have HO1 := Lib.hid (World.ownsRow_nil (wc.alloc (.cells #[.int .i64 node, .int .i64 sl, .slice bo rs.length bcap] 113)) w.heap.size 113 3)
          have hbx1 : wc.heap[w.heap.size]? = some (.cells #[.int .i64 node, .int .i64 sl, .slice bo rs.length bcap] 113) := (hu1.block _ lb (by simp)).trans hbox.out
          have x0 : wc.cell? ⟨w.heap.size, 0, none⟩ = some (.int .i64 node) := by rw [block_cell hbx1]; rfl
          have x1 : wc.cell? ⟨w.heap.size, 1, none⟩ = some (.int .i64 sl) := by rw [block_cell hbx1]; rfl
          have x2 : wc.cell? ⟨w.heap.size, 2, none⟩ = some (.slice bo rs.length bcap) := by rw [block_cell hbx1]; rfl
          have hs1 := hu1.size
          go_wp2_with (at_builtin; refine wpList_append_lies _ rfl (.tmp 39) (.tmp 41) 57 rfl w.heap.size 113 i0 (.agg #[.int .i64 0, .int .i64 0, .slice none 0 0]) 3 40 Try.underlying57 hi hz0 hz1 hz2 rfl (by decide) (.slice none 0 0) 0 [] rfl HO1.out ⟨wc.heap.size, 0, none⟩ 1 1 [.int .i64 node, .int .i64 sl, .slice bo rs.length bcap] rfl rfl one_news one_cells (by decide) (by unfold maxLen; omega) (by omega) (by simp; omega) (wc.heap.size + 1) (by simp) ?d6v2)
          case d6v2 =>
          intro g2 cap2 w2 hown2 hgrow2 hat2 hlt2
          have hu2 : Upd [] wc w2 := (hu1.alloc (.cells #[.int .i64 node, .int .i64 sl, .slice bo rs.length bcap] 113)).grown hgrow2 (by intro k hk; cases hk)
          have hs2 := hu2.size
          have hg2 : wc.heap.size ≤ g2 := by rcases hat2 with h | h <;> first | (simp [Value.ownBlock] at h; omega) | omega | (simp [Value.ownBlock] at h)
          have hcap2 : 0 + 1 ≤ cap2 := own_le hown2
          have HO2 := Lib.hid hown2
          clear hown2 hat2 hgrow2
          have hbats : ∀ r ∈ l.take 0 ++ (⟨node, sl, .slice bo rs.length bcap, rs⟩ : Rv) :: l.drop 0, Bat w r.b r.rs ∧ r.rs.length ≤ 100000 := by
            intro r hr
            rcases List.mem_append.1 hr with h | h
            · exact HV.out.2 r (List.mem_of_mem_take h)
            · rcases List.mem_cons.1 h with rfl | h
              · exact ⟨HBT.out, hrs⟩
              · exact HV.out.2 r (List.mem_of_mem_drop h)
          have HBS := Lib.hid hbats
          clear hbats
          have hn3 : ((l.drop 0).flatMap rvCells).length = (l.length - 0) * 3 := by rw [rv_len, List.length_drop]
          have N3 := Lib.hid (rvs_drop (HVR.out.upd0 hu2) 0 ha)
          have O3 := Lib.hid (show ∀ u ∈ (l.drop 0).flatMap rvCells, u.oneCell' = true from fun u hu => HONE.out u (flat_drop u hu))
          have hlI : (0 : Int) ≤ (l.length : Int) := by omega
          have hca : ¬ cap = 0 := by omega
          go_wp2_with (at_builtin; refine wpList_append_lies _ rfl (.tmp 43) (.tmp 46) 57 rfl w.heap.size 113 i0 (.agg #[.int .i64 0, .int .i64 0, .slice none 0 0]) 3 40 Try.underlying57 hi hz0 hz1 hz2 rfl (by decide) (.slice (some ⟨g2, 0, none⟩) (0 + 1) cap2) (0 + 1) ([] ++ [.int .i64 node, .int .i64 sl, .slice bo rs.length bcap]) rfl HO2.out ⟨b, o + 0 * 3, none⟩ (l.length - 0) (cap - 0) ((l.drop 0).flatMap rvCells) rfl hn3 N3.out O3.out (by omega) (by unfold maxLen; omega) (by omega) (by omega) w2.heap.size rfl ?e6v2)
          case e6v2 =>
          intro g3 cap3 w3 hown3 hgrow3 hat3 hlt3
          have hcells : (l.take 0 ++ (⟨node, sl, .slice bo rs.length bcap, rs⟩ : Rv) :: l.drop 0).flatMap rvCells = .int .i64 node :: .int .i64 sl :: .slice bo rs.length bcap :: l.flatMap rvCells := by simp [rvCells]
          have hlen : (l.take 0 ++ (⟨node, sl, .slice bo rs.length bcap, rs⟩ : Rv) :: l.drop 0).length = 1 + l.length := by simp; omega
          rw [← hcells] at hown3
          have hu3 : Upd [] wc w3 := hu2.grown hgrow3 (by intro k hk; simp [Value.ownBlock] at hk; right; omega)
          have hs3 := hu3.size
          have hg3 : wc.heap.size ≤ g3 := by rcases hat3 with h | h <;> first | (simp [Value.ownBlock] at h; omega) | omega
          have HO3 := Lib.hid (rvs_of_own hlen hown3 HBS.out (HUX.out.trans hu3))
          clear hcells hlen hown3 hgrow3 hat3
          go_wp2_with fail
          go_ret2
          exact ⟨_, rfl, hbel.trans (hu3.below.mono hz), HO3.out, by simp [blkOf]; omega⟩
        · skip
          have hu1 : Upd [] wc wc := Upd.refl _ _
          have HO1 := Lib.hid (World.ownsRow_nil (wc.alloc (.cells #[.int .i64 node, .int .i64 sl, .slice bo rs.length bcap] 113)) w.heap.size 113 3)
          have hbx1 : wc.heap[w.heap.size]? = some (.cells #[.int .i64 node, .int .i64 sl, .slice bo rs.length bcap] 113) := (hu1.block _ lb (by simp)).trans hbox.out
          have x0 : wc.cell? ⟨w.heap.size, 0, none⟩ = some (.int .i64 node) := by rw [block_cell hbx1]; rfl
          have x1 : wc.cell? ⟨w.heap.size, 1, none⟩ = some (.int .i64 sl) := by rw [block_cell hbx1]; rfl
          have x2 : wc.cell? ⟨w.heap.size, 2, none⟩ = some (.slice bo rs.length bcap) := by rw [block_cell hbx1]; rfl
          have hs1 := hu1.size
          go_wp2_with (at_builtin; refine wpList_append_lies _ rfl (.tmp 39) (.tmp 41) 57 rfl w.heap.size 113 i0 (.agg #[.int .i64 0, .int .i64 0, .slice none 0 0]) 3 40 Try.underlying57 hi hz0 hz1 hz2 rfl (by decide) (.slice none 0 0) 0 [] rfl HO1.out ⟨wc.heap.size, 0, none⟩ 1 1 [.int .i64 node, .int .i64 sl, .slice bo rs.length bcap] rfl rfl one_news one_cells (by decide) (by unfold maxLen; omega) (by omega) (by simp; omega) (wc.heap.size + 1) (by simp) ?d6v3)
          case d6v3 =>
          intro g2 cap2 w2 hown2 hgrow2 hat2 hlt2
          have hu2 : Upd [] wc w2 := (hu1.alloc (.cells #[.int .i64 node, .int .i64 sl, .slice bo rs.length bcap] 113)).grown hgrow2 (by intro k hk; cases hk)
          have hs2 := hu2.size
          have hg2 : wc.heap.size ≤ g2 := by rcases hat2 with h | h <;> first | (simp [Value.ownBlock] at h; omega) | omega | (simp [Value.ownBlock] at h)
          have hcap2 : 0 + 1 ≤ cap2 := own_le hown2
          have HO2 := Lib.hid hown2
          clear hown2 hat2 hgrow2
          have hbats : ∀ r ∈ l.take 0 ++ (⟨node, sl, .slice bo rs.length bcap, rs⟩ : Rv) :: l.drop 0, Bat w r.b r.rs ∧ r.rs.length ≤ 100000 := by
            intro r hr
            rcases List.mem_append.1 hr with h | h
            · exact HV.out.2 r (List.mem_of_mem_take h)
            · rcases List.mem_cons.1 h with rfl | h
              · exact ⟨HBT.out, hrs⟩
              · exact HV.out.2 r (List.mem_of_mem_drop h)
          have HBS := Lib.hid hbats
          clear hbats
          have hla : l.length = 0 := by omega
          have hl : l = [] := List.eq_nil_of_length_eq_zero (by omega)
          have hcells : (l.take 0 ++ (⟨node, sl, .slice bo rs.length bcap, rs⟩ : Rv) :: l.drop 0).flatMap rvCells = [.int .i64 node, .int .i64 sl, .slice bo rs.length bcap] := by rw [hl]; rfl
          have hlen : (l.take 0 ++ (⟨node, sl, .slice bo rs.length bcap, rs⟩ : Rv) :: l.drop 0).length = 1 := by rw [hl]; rfl
          have hown2 := HO2.out
          rw [← hcells] at hown2
          have HO3 := Lib.hid (rvs_of_own hlen hown2 HBS.out (HUX.out.trans hu2))
          clear hcells hlen hown2
          have hlI : (0 : Int) ≤ (l.length : Int) := by omega
          have hst : ∀ (ad : Addr) (wx : World), (storeCells ad []).run Try.prog wx = .ok () wx := fun ad wx => by simp [storeCells]
          by_cases hcp : cap = 0
          · go_wp2_with fail
            go_ret2
            exact ⟨_, rfl, hbel.trans (hu2.below.mono hz), HO3.out, by simp [blkOf]; omega⟩
          · go_wp2_with fail
            go_ret2
            exact ⟨_, rfl, hbel.trans (hu2.below.mono hz), HO3.out, by simp [blkOf]; omega⟩
    · have hpos : 0 < l.length := by omega
      obtain ⟨-, b, o, rfl, hbs, -⟩ := hvr.at 0 hpos
      clear hvr
      have haI : (a : Int) ≤ (cap : Int) := by omega
      have ha0I : (0 : Int) ≤ (a : Int) := by omega
      by_cases hna : a < l.length
      · skip
        have hn1 : ((l.take a).flatMap rvCells).length = a * 3 := by rw [rv_len, List.length_take, Nat.min_eq_left ha]
        have N1 := Lib.hid (rvs_take HVR.out a ha)
        have O1 := Lib.hid (show ∀ u ∈ (l.take a).flatMap rvCells, u.oneCell' = true from fun u hu => HONE.out u (flat_take u hu))
        go_wp2_with (at_builtin; refine wpList_append_lies _ rfl (.const (.slice none 0 0)) (.tmp 37) 57 rfl w.heap.size 113 i0 (.agg #[.int .i64 0, .int .i64 0, .slice none 0 0]) 3 40 Try.underlying57 hi hz0 hz1 hz2 rfl (by decide) _ 0 [] rfl (World.ownsRow_nil _ _ _ _) ⟨b, o, none⟩ a cap ((l.take a).flatMap rvCells) rfl hn1 N1.out O1.out (by omega) (by unfold maxLen; omega) (by omega) hz wc.heap.size rfl ?c6v4)
        case c6v4 =>
        intro g1 cap1 w1 hown1 hgrow1 hat1 hlt1
        have hg1 : g1 = wc.heap.size := by rcases hat1 with h | h; (cases h); exact h
        try simp only [Nat.zero_add, List.nil_append] at hown1
        have hu1 : Upd [] wc w1 := (Upd.refl _ _).grown hgrow1 (by intro k hk; cases hk)
        have HO1 := Lib.hid (hown1.alloc (.cells #[.int .i64 node, .int .i64 sl, .slice bo rs.length bcap] 113))
        clear hown1 hat1 hgrow1
        have hbx1 : w1.heap[w.heap.size]? = some (.cells #[.int .i64 node, .int .i64 sl, .slice bo rs.length bcap] 113) := (hu1.block _ lb (by simp)).trans hbox.out
        have x0 : w1.cell? ⟨w.heap.size, 0, none⟩ = some (.int .i64 node) := by rw [block_cell hbx1]; rfl
        have x1 : w1.cell? ⟨w.heap.size, 1, none⟩ = some (.int .i64 sl) := by rw [block_cell hbx1]; rfl
        have x2 : w1.cell? ⟨w.heap.size, 2, none⟩ = some (.slice bo rs.length bcap) := by rw [block_cell hbx1]; rfl
        have hs1 := hu1.size
        go_wp2_with (at_builtin; refine wpList_append_lies _ rfl (.tmp 39) (.tmp 41) 57 rfl w.heap.size 113 i0 (.agg #[.int .i64 0, .int .i64 0, .slice none 0 0]) 3 40 Try.underlying57 hi hz0 hz1 hz2 rfl (by decide) _ a ((l.take a).flatMap rvCells) rfl HO1.out ⟨w1.heap.size, 0, none⟩ 1 1 [.int .i64 node, .int .i64 sl, .slice bo rs.length bcap] rfl rfl one_news one_cells (by decide) (by unfold maxLen; omega) (by omega) (by simp; omega) (w1.heap.size + 1) (by simp) ?d6v4)
        case d6v4 =>
        intro g2 cap2 w2 hown2 hgrow2 hat2 hlt2
        have hu2 : Upd [] wc w2 := (hu1.alloc (.cells #[.int .i64 node, .int .i64 sl, .slice bo rs.length bcap] 113)).grown hgrow2 (by intro k hk; simp [Value.ownBlock] at hk; right; omega)
        have hs2 := hu2.size
        have hg2 : wc.heap.size ≤ g2 := by rcases hat2 with h | h <;> first | (simp [Value.ownBlock] at h; omega) | omega | (simp [Value.ownBlock] at h)
        have hcap2 : a + 1 ≤ cap2 := own_le hown2
        have HO2 := Lib.hid hown2
        clear hown2 hat2 hgrow2
        have hbats : ∀ r ∈ l.take a ++ (⟨node, sl, .slice bo rs.length bcap, rs⟩ : Rv) :: l.drop a, Bat w r.b r.rs ∧ r.rs.length ≤ 100000 := by
          intro r hr
          rcases List.mem_append.1 hr with h | h
          · exact HV.out.2 r (List.mem_of_mem_take h)
          · rcases List.mem_cons.1 h with rfl | h
            · exact ⟨HBT.out, hrs⟩
            · exact HV.out.2 r (List.mem_of_mem_drop h)
        have HBS := Lib.hid hbats
        clear hbats
        have hn3 : ((l.drop a).flatMap rvCells).length = (l.length - a) * 3 := by rw [rv_len, List.length_drop]
        have N3 := Lib.hid (rvs_drop (HVR.out.upd0 hu2) a ha)
        have O3 := Lib.hid (show ∀ u ∈ (l.drop a).flatMap rvCells, u.oneCell' = true from fun u hu => HONE.out u (flat_drop u hu))
        have hlI : (a : Int) ≤ (l.length : Int) := by omega
        have hca : ¬ cap = a := by omega
        go_wp2_with (at_builtin; refine wpList_append_lies _ rfl (.tmp 43) (.tmp 46) 57 rfl w.heap.size 113 i0 (.agg #[.int .i64 0, .int .i64 0, .slice none 0 0]) 3 40 Try.underlying57 hi hz0 hz1 hz2 rfl (by decide) (.slice (some ⟨g2, 0, none⟩) (a + 1) cap2) (a + 1) (((l.take a).flatMap rvCells) ++ [.int .i64 node, .int .i64 sl, .slice bo rs.length bcap]) rfl HO2.out ⟨b, o + a * 3, none⟩ (l.length - a) (cap - a) ((l.drop a).flatMap rvCells) rfl hn3 N3.out O3.out (by omega) (by unfold maxLen; omega) (by omega) (by omega) w2.heap.size rfl ?e6v4)
        case e6v4 =>
        intro g3 cap3 w3 hown3 hgrow3 hat3 hlt3
        have hcells : (l.take a ++ (⟨node, sl, .slice bo rs.length bcap, rs⟩ : Rv) :: l.drop a).flatMap rvCells = (l.take a).flatMap rvCells ++ .int .i64 node :: .int .i64 sl :: .slice bo rs.length bcap :: (l.drop a).flatMap rvCells := by simp [rvCells]
        have hlen : (l.take a ++ (⟨node, sl, .slice bo rs.length bcap, rs⟩ : Rv) :: l.drop a).length = (a + 1) + (l.length - a) := by simp; omega
        rw [← hcells] at hown3
        have hu3 : Upd [] wc w3 := hu2.grown hgrow3 (by intro k hk; simp [Value.ownBlock] at hk; right; omega)
        have hs3 := hu3.size
        have hg3 : wc.heap.size ≤ g3 := by rcases hat3 with h | h <;> first | (simp [Value.ownBlock] at h; omega) | omega
        have HO3 := Lib.hid (rvs_of_own hlen hown3 HBS.out (HUX.out.trans hu3))
        clear hcells hlen hown3 hgrow3 hat3
        go_wp2_with fail
        go_ret2
        exact ⟨_, rfl, hbel.trans (hu3.below.mono hz), HO3.out, by simp [blkOf]; omega⟩
      · skip
        have hn1 : ((l.take a).flatMap rvCells).length = a * 3 := by rw [rv_len, List.length_take, Nat.min_eq_left ha]
        have N1 := Lib.hid (rvs_take HVR.out a ha)
        have O1 := Lib.hid (show ∀ u ∈ (l.take a).flatMap rvCells, u.oneCell' = true from fun u hu => HONE.out u (flat_take u hu))
        go_wp2_with (at_builtin; refine wpList_append_lies _ rfl (.const (.slice none 0 0)) (.tmp 37) 57 rfl w.heap.size 113 i0 (.agg #[.int .i64 0, .int .i64 0, .slice none 0 0]) 3 40 Try.underlying57 hi hz0 hz1 hz2 rfl (by decide) _ 0 [] rfl (World.ownsRow_nil _ _ _ _) ⟨b, o, none⟩ a cap ((l.take a).flatMap rvCells) rfl hn1 N1.out O1.out (by omega) (by unfold maxLen; omega) (by omega) hz wc.heap.size rfl ?c6v5)
        case c6v5 =>
        intro g1 cap1 w1 hown1 hgrow1 hat1 hlt1
        have hg1 : g1 = wc.heap.size := by rcases hat1 with h | h; (cases h); exact h
        try simp only [Nat.zero_add, List.nil_append] at hown1
        have hu1 : Upd [] wc w1 := (Upd.refl _ _).grown hgrow1 (by intro k hk; cases hk)
        have HO1 := Lib.hid (hown1.alloc (.cells #[.int .i64 node, .int .i64 sl, .slice bo rs.length bcap] 113))
        clear hown1 hat1 hgrow1
        have hbx1 : w1.heap[w.heap.size]? = some (.cells #[.int .i64 node, .int .i64 sl, .slice bo rs.length bcap] 113) := (hu1.block _ lb (by simp)).trans hbox.out
        have x0 : w1.cell? ⟨w.heap.size, 0, none⟩ = some (.int .i64 node) := by rw [block_cell hbx1]; rfl
        have x1 : w1.cell? ⟨w.heap.size, 1, none⟩ = some (.int .i64 sl) := by rw [block_cell hbx1]; rfl
        have x2 : w1.cell? ⟨w.heap.size, 2, none⟩ = some (.slice bo rs.length bcap) := by rw [block_cell hbx1]; rfl
        have hs1 := hu1.size
        go_wp2_with (at_builtin; refine wpList_append_lies _ rfl (.tmp 39) (.tmp 41) 57 rfl w.heap.size 113 i0 (.agg #[.int .i64 0, .int .i64 0, .slice none 0 0]) 3 40 Try.underlying57 hi hz0 hz1 hz2 rfl (by decide) _ a ((l.take a).flatMap rvCells) rfl HO1.out ⟨w1.heap.size, 0, none⟩ 1 1 [.int .i64 node, .int .i64 sl, .slice bo rs.length bcap] rfl rfl one_news one_cells (by decide) (by unfold maxLen; omega) (by omega) (by simp; omega) (w1.heap.size + 1) (by simp) ?d6v5)
        case d6v5 =>
        intro g2 cap2 w2 hown2 hgrow2 hat2 hlt2
        have hu2 : Upd [] wc w2 := (hu1.alloc (.cells #[.int .i64 node, .int .i64 sl, .slice bo rs.length bcap] 113)).grown hgrow2 (by intro k hk; simp [Value.ownBlock] at hk; right; omega)
        have hs2 := hu2.size
        have hg2 : wc.heap.size ≤ g2 := by rcases hat2 with h | h <;> first | (simp [Value.ownBlock] at h; omega) | omega | (simp [Value.ownBlock] at h)
        have hcap2 : a + 1 ≤ cap2 := own_le hown2
        have HO2 := Lib.hid hown2
        clear hown2 hat2 hgrow2
        have hbats : ∀ r ∈ l.take a ++ (⟨node, sl, .slice bo rs.length bcap, rs⟩ : Rv) :: l.drop a, Bat w r.b r.rs ∧ r.rs.length ≤ 100000 := by
          intro r hr
          rcases List.mem_append.1 hr with h | h
          · exact HV.out.2 r (List.mem_of_mem_take h)
          · rcases List.mem_cons.1 h with rfl | h
            · exact ⟨HBT.out, hrs⟩
            · exact HV.out.2 r (List.mem_of_mem_drop h)
        have HBS := Lib.hid hbats
        clear hbats
        have hla : l.length = a := by omega
        have hcells : ((l.take a).flatMap rvCells) ++ [.int .i64 node, .int .i64 sl, .slice bo rs.length bcap] = (l.take a ++ (⟨node, sl, .slice bo rs.length bcap, rs⟩ : Rv) :: l.drop a).flatMap rvCells := by rw [← hla, List.drop_length]; simp [rvCells]
        have hlen : (l.take a ++ (⟨node, sl, .slice bo rs.length bcap, rs⟩ : Rv) :: l.drop a).length = (a + 1) := by rw [← hla, List.drop_length]; simp
        have hown2 := HO2.out
        rw [hcells] at hown2
        have HO3 := Lib.hid (rvs_of_own hlen hown2 HBS.out (HUX.out.trans hu2))
        clear hcells hlen hown2
        have hlI : (a : Int) ≤ (l.length : Int) := by omega
        have hst : ∀ (ad : Addr) (wx : World), (storeCells ad []).run Try.prog wx = .ok () wx := fun ad wx => by simp [storeCells]
        by_cases hcp : cap = a
        · go_wp2_with fail
          go_ret2
          exact ⟨_, rfl, hbel.trans (hu2.below.mono hz), HO3.out, by simp [blkOf]; omega⟩
        · go_wp2_with fail
          go_ret2
          exact ⟨_, rfl, hbel.trans (hu2.below.mono hz), HO3.out, by simp [blkOf]; omega⟩

end Go.Proofs.Ytdeadekeffficaa
