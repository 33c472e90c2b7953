/- Parts of the proof, one behind the other. -/
import Derived.Test.YtdeadekeffficaaOnceB4
import Derived.Deep.RegionHeld3
import Derived.Deep.DeepCutAuto
import Derived.Deep.CutBlock
import Derived.Outline

/- psephosref12.Add: where none of that node is there. -/
namespace Go.Proofs.Ytdeadekeffficaa
open Go.RowKit Go.Heap

def AddYes (w : World) (l : List Rv) (a : Nat) (r : Rv) (e : Ending) (w' : World) : Prop :=
  ∃ u, e = .returned (.tuple #[u, .bool true]) ∧ Below w.heap.size w w' ∧ RVs w' u (l.take a ++ r :: l.drop a) ∧ ∀ k ∈ blkOf u, w.heap.size ≤ k ∧ k < w'.heap.size

theorem rvs_of_own {w w0 : World} {B n cap g : Nat} {l : List Rv} (hn : l.length = n) (h : w.ownsRow B 113 3 (.slice (some ⟨g, 0, none⟩) n cap) n (l.flatMap rvCells)) (hb : ∀ r ∈ l, Bat w0 r.b r.rs ∧ r.rs.length ≤ 100000) (hu : Upd [] w0 w) : RVs w (.slice (some ⟨g, 0, none⟩) n cap) l := by
  subst hn
  exact ⟨Reads.of_own h, fun r hr => ⟨(hb r hr).1.upd hu (by simp), (hb r hr).2⟩⟩

theorem rvs_take {w : World} {b o n cap : Nat} {l : List Rv} (h : RVs w (.slice (some ⟨b, o, none⟩) n cap) l) (a : Nat) (ha : a ≤ l.length) : ∀ j u, ((l.take a).flatMap rvCells)[j]? = some u → w.cell? ((⟨b, o, none⟩ : Addr).add j) = some u := by
  intro j u hj
  have hl := (List.getElem?_eq_some_iff.1 hj).1
  rw [rv_len, List.length_take, Nat.min_eq_left ha] at hl
  rw [Go.WideShapes.add_plain, rvs_cell h j (by omega)]
  rw [← List.take_append_drop a l, List.flatMap_append, List.getElem?_append_left (by rw [rv_len, List.length_take, Nat.min_eq_left ha]; exact hl)]
  exact hj

theorem rvs_drop {w : World} {b o n cap : Nat} {l : List Rv} (h : RVs w (.slice (some ⟨b, o, none⟩) n cap) l) (a : Nat) (ha : a ≤ l.length) : ∀ j u, ((l.drop a).flatMap rvCells)[j]? = some u → w.cell? ((⟨b, o + a * 3, none⟩ : Addr).add j) = some u := by
  intro j u hj
  have hl := (List.getElem?_eq_some_iff.1 hj).1
  rw [rv_len, List.length_drop] at hl
  rw [Go.WideShapes.add_plain, Nat.add_assoc, rvs_cell h (a * 3 + j) (by omega)]
  rw [← List.take_append_drop a l, List.flatMap_append, List.getElem?_append_right (by rw [rv_len, List.length_take, Nat.min_eq_left ha]; omega), rv_len, List.length_take, Nat.min_eq_left ha]
  rw [show a * 3 + j - a * 3 = j by omega]
  exact hj

theorem one_news {w : World} {x y z : Value} {T : TypeId} : ∀ j u, [x, y, z][j]? = some u → (w.alloc (.cells #[x, y, z] T)).cell? ((⟨w.heap.size, 0, none⟩ : Addr).add j) = some u := by
  intro j u hj
  rw [Go.WideShapes.add_plain, block_cell (heap_alloc_new w _), Nat.zero_add]
  simpa using hj

theorem one_cells {a b : Int} {bo : Option Addr} {n c : Nat} : ∀ u ∈ [Value.int .i64 a, .int .i64 b, .slice bo n c], u.oneCell' = true := by
  intro u hu
  simp only [List.mem_cons, List.not_mem_nil, or_false] at hu
  rcases hu with rfl | rfl | rfl <;> rfl

theorem own_le {w : World} {B E sz g n cap : Nat} {xs : List Value} (h : w.ownsRow B E sz (.slice (some ⟨g, 0, none⟩) n cap) n xs) : n ≤ cap := by
  rcases h.2 with ⟨h', _⟩ | ⟨g', cap', cur, h', _, _, hnc, _⟩
  · simp at h'
  · simp only [Value.slice.injEq] at h'
    omega

theorem flat_take {l : List Rv} {a : Nat} (u : Value) (hu : u ∈ (l.take a).flatMap rvCells) : u ∈ l.flatMap rvCells := by
  simp only [List.mem_flatMap] at hu ⊢
  obtain ⟨r, hr, h⟩ := hu
  exact ⟨r, List.mem_of_mem_take hr, h⟩

theorem flat_drop {l : List Rv} {a : Nat} (u : Value) (hu : u ∈ (l.drop a).flatMap rvCells) : u ∈ l.flatMap rvCells := by
  simp only [List.mem_flatMap] at hu ⊢
  obtain ⟨r, hr, h⟩ := hu
  exact ⟨r, List.mem_of_mem_drop hr, h⟩

set_option maxHeartbeats 2000000 in
set_option maxRecDepth 100000 in
theorem add_yes (v bv : Value) (l : List Rv) (node sl : Int) (rs : List Rq) (w : World) (hn : l.length ≤ 1000) (hv : RVs w v l) (hb : Bat w bv rs) (hrs : rs.length ≤ 100000) (a : Nat) (ha : a ≤ l.length)
    (hdn : ∀ i (hi : i < l.length), i < a → l[i].node < node) (hup : ∀ i (hi : i < l.length), a ≤ i → node < l[i].node) :
    Calls Try.prog 61 #[v, .agg #[.int .i64 node, .int .i64 sl, bv]] w (AddYes w l a ⟨node, sl, bv, rs⟩) := by
  obtain ⟨i0, hi, hz0, hz1, hz2⟩ := info_parts Try.infoRv
  obtain ⟨ao, cap, rfl, hl1, hl2, -⟩ := hv.1
  have hb0 := hb
  obtain ⟨bo, bcap, rfl⟩ := bat_form hb
  have hmx : l.length ≤ cap := hl1
  have hmc : cap ≤ 9223372036854775807 := by unfold maxLen at hl2; omega
  clear hl1 hl2
  have HV := Lib.hid hv
  have HUP := Lib.hid hup
  have HDN := Lib.hid hdn
  have HBT := Lib.hid hb0
  clear hv hup hdn hb hb0
  go_enter Try.func61, Try.ntmps61
  have HB := Lib.hid (show (w.alloc (.cells #[.int .i64 node, .int .i64 sl, .slice bo rs.length bcap] 113)).heap[w.heap.size]? = _ from heap_alloc_new w _)
  go_upto_block 0 with fail
  go_cut [6] (fun i wx => i = .int .i64 a ∧ Below w.heap.size w wx ∧ Hid (wx.heap[w.heap.size]? = some (.cells #[.int .i64 node, .int .i64 sl, .slice bo rs.length bcap] 113 (0, 0))))
  case first =>
    go_wp2_with fail
    go_loopw [6] (fun i wr => ∃ k : Nat, a ≤ k ∧ k ≤ l.length ∧ i = .int .i64 k ∧ Below w.heap.size w wr ∧ Hid (wr.heap[w.heap.size]? = some (.cells #[.int .i64 node, .int .i64 sl, .slice bo rs.length bcap] 113 (0, 0)))) (fun i _ => (intOf i).toNat)
    case atStart => exact ⟨l.length, by omega, by omega, rfl, (Below.refl _ _).alloc (Nat.le_refl _) _, HB⟩
    case round =>
      clear HB
      obtain ⟨k, hk, hkl, rfl, hbel, hbox⟩ := hrel
      have hz := hbel.size
      by_cases hk0 : k = 0
      · have ha0 : a = 0 := by omega
        subst hk0
        subst ha0
        go_wp2_with fail
        refine Mix.wp_text2 (by kernel_rfl) (by kernel_rfl) ?_
        go_wp2_with fail
        refine ⟨by rfl, ?_⟩
        go_wp2_with fail
        go_meet
        exact ⟨rfl, hbel.drew, hbox⟩
      have hvr := HV.out.upd0 (Upd.of_below hbel)
      obtain ⟨-, b, o, rfl, hbs, c0, -⟩ := hvr.at (k - 1) (by omega)
      have x0 : wr.cell? ⟨w.heap.size, 0, none⟩ = some (.int .i64 node) := by rw [block_cell hbox.out]; rfl
      have hk1 : (k : Int) - 1 = ((k - 1 : Nat) : Int) := by omega
      have hsub : IntKind.i64.wrap ((k : Int) - 1) = ((k - 1 : Nat) : Int) := by rw [hk1]; exact IntWalk.i64_in _ (by omega)
      have hk0 : (0 : Int) < (k : Int) := by omega
      clear hvr
      by_cases hka : k = a
      · subst hka
        have hlt := HDN.out (k - 1) (by omega) (by omega)
        generalize l[k - 1].node = nd at *
        have hge : ¬ node ≤ nd := by omega
        have hgb : decide (node ≤ nd) = false := by simp; omega
        go_wp2_with fail
        refine Mix.wp_text2 (by kernel_rfl) (by kernel_rfl) ?_
        go_wp2_with fail
        refine ⟨by rfl, ?_⟩
        go_wp2_with fail
        go_meet
        exact ⟨rfl, hbel.drew, hbox⟩
      · have hlt := HUP.out (k - 1) (by omega) (by omega)
        generalize l[k - 1].node = nd at *
        have hne : (nd == node) = false := by simp; omega
        have hge : node ≤ nd := by omega
        go_wp2_with fail
        refine Mix.wp_text2 (by kernel_rfl) (by kernel_rfl) ?_
        go_wp2_with fail
        refine ⟨by rfl, ?_⟩
        go_wp2_with fail
        refine Mix.wp_text2 (by kernel_rfl) (by kernel_rfl) ?_
        go_wp2_with fail
        refine ⟨by rfl, ?_⟩
        go_wp2_with fail
        go_roundw
        case rel => exact ⟨k - 1, by omega, by omega, by go_num, hbel.drew.drew, hbox⟩
        case measure => simp [intOf]; omega
  case rest =>
    obtain ⟨rfl, hbel, hbox⟩ := hcut
    clear HB HUP HDN
    have hz := hbel.size
    have hvr := HV.out.upd0 (Upd.of_below hbel)
    have HVR := Lib.hid hvr
    have HONE := Lib.hid (rv_one hvr)
    have HUX := Lib.hid (Upd.of_below (M := []) hbel)
    have lb := block_lt hbox.out
    have hz2' : wc.heap.size ≥ w.heap.size + 1 := by omega

    by_cases ha0 : a = 0
    · clear hvr
      subst ha0
      cases ao with
      | none =>
        obtain ⟨_, cp, he, _, _, _, hnil, _⟩ := HV.out.1
        simp only [Value.slice.injEq] at he
        obtain ⟨rfl, -, rfl⟩ := he
        obtain ⟨hl0, hc0⟩ := hnil rfl
        subst hc0
        have hln : ¬ 0 < l.length := by omega
        have hllI : (l.length : Int) = 0 := by omega
        have hu1 : Upd [] wc wc := Upd.refl _ _
        have HO1 := Lib.hid (World.ownsRow_nil (wc.alloc (.cells #[.int .i64 node, .int .i64 sl, .slice bo rs.length bcap] 113)) w.heap.size 113 3)
        have hbx1 : wc.heap[w.heap.size]? = some (.cells #[.int .i64 node, .int .i64 sl, .slice bo rs.length bcap] 113) := (hu1.block _ lb (by simp)).trans hbox.out
        have x0 : wc.cell? ⟨w.heap.size, 0, none⟩ = some (.int .i64 node) := by rw [block_cell hbx1]; rfl
        have x1 : wc.cell? ⟨w.heap.size, 1, none⟩ = some (.int .i64 sl) := by rw [block_cell hbx1]; rfl
        have x2 : wc.cell? ⟨w.heap.size, 2, none⟩ = some (.slice bo rs.length bcap) := by rw [block_cell hbx1]; rfl
        have hs1 := hu1.size
        go_wp2_with (at_builtin; refine wpList_append_lies _ rfl (.tmp 39) (.tmp 41) 57 rfl w.heap.size 113 i0 (.agg #[.int .i64 0, .int .i64 0, .slice none 0 0]) 3 40 Try.underlying57 hi hz0 hz1 hz2 rfl (by decide) (.slice none 0 0) 0 [] rfl HO1.out ⟨wc.heap.size, 0, none⟩ 1 1 [.int .i64 node, .int .i64 sl, .slice bo rs.length bcap] rfl rfl one_news one_cells (by decide) (by unfold maxLen; omega) (by omega) (by simp; omega) (wc.heap.size + 1) (by simp) ?d6v1)
        case d6v1 =>
        intro g2 cap2 w2 hown2 hgrow2 hat2 hlt2
        have hu2 : Upd [] wc w2 := (hu1.alloc (.cells #[.int .i64 node, .int .i64 sl, .slice bo rs.length bcap] 113)).grown hgrow2 (by intro k hk; cases hk)
        have hs2 := hu2.size
        have hg2 : wc.heap.size ≤ g2 := by rcases hat2 with h | h <;> first | (simp [Value.ownBlock] at h; omega) | omega | (simp [Value.ownBlock] at h)
        have hcap2 : 0 + 1 ≤ cap2 := own_le hown2
        have HO2 := Lib.hid hown2
        clear hown2 hat2 hgrow2
        have hbats : ∀ r ∈ l.take 0 ++ (⟨node, sl, .slice bo rs.length bcap, rs⟩ : Rv) :: l.drop 0, Bat w r.b r.rs ∧ r.rs.length ≤ 100000 := by
          intro r hr
          rcases List.mem_append.1 hr with h | h
          · exact HV.out.2 r (List.mem_of_mem_take h)
          · rcases List.mem_cons.1 h with rfl | h
            · exact ⟨HBT.out, hrs⟩
            · exact HV.out.2 r (List.mem_of_mem_drop h)
        have HBS := Lib.hid hbats
        clear hbats
        have hla : l.length = 0 := by omega
        have hl : l = [] := List.eq_nil_of_length_eq_zero (by omega)
        have hcells : (l.take 0 ++ (⟨node, sl, .slice bo rs.length bcap, rs⟩ : Rv) :: l.drop 0).flatMap rvCells = [.int .i64 node, .int .i64 sl, .slice bo rs.length bcap] := by rw [hl]; rfl
        have hlen : (l.take 0 ++ (⟨node, sl, .slice bo rs.length bcap, rs⟩ : Rv) :: l.drop 0).length = 1 := by rw [hl]; rfl
        have hown2 := HO2.out
        rw [← hcells] at hown2
        have HO3 := Lib.hid (rvs_of_own hlen hown2 HBS.out (HUX.out.trans hu2))
        clear hcells hlen hown2
        have hlI : (0 : Int) ≤ (l.length : Int) := by omega
        have hst : ∀ (ad : Addr) (wx : World), (storeCells ad []).run Try.prog wx = .ok () wx := fun ad wx => by simp [storeCells]
        · go_wp2_with fail
          go_ret2
          exact ⟨_, rfl, hbel.trans (hu2.below.mono hz), HO3.out, by simp [blkOf]; omega⟩
      | some ad =>
        by_cases hpos : 0 < l.length
        · have hvr := HVR.out
          obtain ⟨-, b, o, hbo, hbs, -⟩ := hvr.at 0 hpos
          simp only [Option.some.injEq] at hbo
          subst hbo
          clear hvr
          have hu1 : Upd [] wc wc := Upd.refl _ _
          have HO1 := Lib.hid (World.ownsRow_nil (wc.alloc (.cells #[.int .i64 node, .int .i64 sl, .slice bo rs.length bcap] 113)) w.heap.size 113 3)
          have hbx1 : wc.heap[w.heap.size]? = some (.cells #[.int .i64 node, .int .i64 sl, .slice bo rs.length bcap] 113) := (hu1.block _ lb (by simp)).trans hbox.out
          have x0 : wc.cell? ⟨w.heap.size, 0, none⟩ = some (.int .i64 node) := by rw [block_cell hbx1]; rfl
          have x1 : wc.cell? ⟨w.heap.size, 1, none⟩ = some (.int .i64 sl) := by rw [block_cell hbx1]; rfl
          have x2 : wc.cell? ⟨w.heap.size, 2, none⟩ = some (.slice bo rs.length bcap) := by rw [block_cell hbx1]; rfl
          have hs1 := hu1.size
          go_wp2_with (at_builtin; refine wpList_append_lies _ rfl (.tmp 39) (.tmp 41) 57 rfl w.heap.size 113 i0 (.agg #[.int .i64 0, .int .i64 0, .slice none 0 0]) 3 40 Try.underlying57 hi hz0 hz1 hz2 rfl (by decide) (.slice none 0 0) 0 [] rfl HO1.out ⟨wc.heap.size, 0, none⟩ 1 1 [.int .i64 node, .int .i64 sl, .slice bo rs.length bcap] rfl rfl one_news one_cells (by decide) (by unfold maxLen; omega) (by omega) (by simp; omega) (wc.heap.size + 1) (by simp) ?d6v2)
          case d6v2 =>
          intro g2 cap2 w2 hown2 hgrow2 hat2 hlt2
          have hu2 : Upd [] wc w2 := (hu1.alloc (.cells #[.int .i64 node, .int .i64 sl, .slice bo rs.length bcap] 113)).grown hgrow2 (by intro k hk; cases hk)
          have hs2 := hu2.size
          have hg2 : wc.heap.size ≤ g2 := by rcases hat2 with h | h <;> first | (simp [Value.ownBlock] at h; omega) | omega | (simp [Value.ownBlock] at h)
          have hcap2 : 0 + 1 ≤ cap2 := own_le hown2
          have HO2 := Lib.hid hown2
          clear hown2 hat2 hgrow2
          have hbats : ∀ r ∈ l.take 0 ++ (⟨node, sl, .slice bo rs.length bcap, rs⟩ : Rv) :: l.drop 0, Bat w r.b r.rs ∧ r.rs.length ≤ 100000 := by
            intro r hr
            rcases List.mem_append.1 hr with h | h
            · exact HV.out.2 r (List.mem_of_mem_take h)
            · rcases List.mem_cons.1 h with rfl | h
              · exact ⟨HBT.out, hrs⟩
              · exact HV.out.2 r (List.mem_of_mem_drop h)
          have HBS := Lib.hid hbats
          clear hbats
          have hn3 : ((l.drop 0).flatMap rvCells).length = (l.length - 0) * 3 := by rw [rv_len, List.length_drop]
          have N3 := Lib.hid (rvs_drop (HVR.out.upd0 hu2) 0 ha)
          have O3 := Lib.hid (show ∀ u ∈ (l.drop 0).flatMap rvCells, u.oneCell' = true from fun u hu => HONE.out u (flat_drop u hu))
          have hlI : (0 : Int) ≤ (l.length : Int) := by omega
          have hca : ¬ cap = 0 := by omega
          go_wp2_with (at_builtin; refine wpList_append_lies _ rfl (.tmp 43) (.tmp 46) 57 rfl w.heap.size 113 i0 (.agg #[.int .i64 0, .int .i64 0, .slice none 0 0]) 3 40 Try.underlying57 hi hz0 hz1 hz2 rfl (by decide) (.slice (some ⟨g2, 0, none⟩) (0 + 1) cap2) (0 + 1) ([] ++ [.int .i64 node, .int .i64 sl, .slice bo rs.length bcap]) rfl HO2.out ⟨b, o + 0 * 3, none⟩ (l.length - 0) (cap - 0) ((l.drop 0).flatMap rvCells) rfl hn3 N3.out O3.out (by omega) (by unfold maxLen; omega) (by omega) (by omega) w2.heap.size rfl ?e6v2)
          case e6v2 =>
          intro g3 cap3 w3 hown3 hgrow3 hat3 hlt3
          have hcells : (l.take 0 ++ (⟨node, sl, .slice bo rs.length bcap, rs⟩ : Rv) :: l.drop 0).flatMap rvCells = .int .i64 node :: .int .i64 sl :: .slice bo rs.length bcap :: l.flatMap rvCells := by simp [rvCells]
          have hlen : (l.take 0 ++ (⟨node, sl, .slice bo rs.length bcap, rs⟩ : Rv) :: l.drop 0).length = 1 + l.length := by simp; omega
          rw [← hcells] at hown3
          have hu3 : Upd [] wc w3 := hu2.grown hgrow3 (by intro k hk; simp [Value.ownBlock] at hk; right; omega)
          have hs3 := hu3.size
          have hg3 : wc.heap.size ≤ g3 := by rcases hat3 with h | h <;> first | (simp [Value.ownBlock] at h; omega) | omega
          have HO3 := Lib.hid (rvs_of_own hlen hown3 HBS.out (HUX.out.trans hu3))
          clear hcells hlen hown3 hgrow3 hat3
          go_wp2_with fail
          go_ret2
          exact ⟨_, rfl, hbel.trans (hu3.below.mono hz), HO3.out, by simp [blkOf]; omega⟩
        · skip
          have hu1 : Upd [] wc wc := Upd.refl _ _
          have HO1 := Lib.hid (World.ownsRow_nil (wc.alloc (.cells #[.int .i64 node, .int .i64 sl, .slice bo rs.length bcap] 113)) w.heap.size 113 3)
          have hbx1 : wc.heap[w.heap.size]? = some (.cells #[.int .i64 node, .int .i64 sl, .slice bo rs.length bcap] 113) := (hu1.block _ lb (by simp)).trans hbox.out
          have x0 : wc.cell? ⟨w.heap.size, 0, none⟩ = some (.int .i64 node) := by rw [block_cell hbx1]; rfl
          have x1 : wc.cell? ⟨w.heap.size, 1, none⟩ = some (.int .i64 sl) := by rw [block_cell hbx1]; rfl
          have x2 : wc.cell? ⟨w.heap.size, 2, none⟩ = some (.slice bo rs.length bcap) := by rw [block_cell hbx1]; rfl
          have hs1 := hu1.size
          go_wp2_with (at_builtin; refine wpList_append_lies _ rfl (.tmp 39) (.tmp 41) 57 rfl w.heap.size 113 i0 (.agg #[.int .i64 0, .int .i64 0, .slice none 0 0]) 3 40 Try.underlying57 hi hz0 hz1 hz2 rfl (by decide) (.slice none 0 0) 0 [] rfl HO1.out ⟨wc.heap.size, 0, none⟩ 1 1 [.int .i64 node, .int .i64 sl, .slice bo rs.length bcap] rfl rfl one_news one_cells (by decide) (by unfold maxLen; omega) (by omega) (by simp; omega) (wc.heap.size + 1) (by simp) ?d6v3)
          case d6v3 =>
          intro g2 cap2 w2 hown2 hgrow2 hat2 hlt2
          have hu2 : Upd [] wc w2 := (hu1.alloc (.cells #[.int .i64 node, .int .i64 sl, .slice bo rs.length bcap] 113)).grown hgrow2 (by intro k hk; cases hk)
          have hs2 := hu2.size
          have hg2 : wc.heap.size ≤ g2 := by rcases hat2 with h | h <;> first | (simp [Value.ownBlock] at h; omega) | omega | (simp [Value.ownBlock] at h)
          have hcap2 : 0 + 1 ≤ cap2 := own_le hown2
          have HO2 := Lib.hid hown2
          clear hown2 hat2 hgrow2
          have hbats : ∀ r ∈ l.take 0 ++ (⟨node, sl, .slice bo rs.length bcap, rs⟩ : Rv) :: l.drop 0, Bat w r.b r.rs ∧ r.rs.length ≤ 100000 := by
            intro r hr
            rcases List.mem_append.1 hr with h | h
            · exact HV.out.2 r (List.mem_of_mem_take h)
            · rcases List.mem_cons.1 h with rfl | h
              · exact ⟨HBT.out, hrs⟩
              · exact HV.out.2 r (List.mem_of_mem_drop h)
          have HBS := Lib.hid hbats
          clear hbats
          have hla : l.length = 0 := by omega
          have hl : l = [] := List.eq_nil_of_length_eq_zero (by omega)
          have hcells : (l.take 0 ++ (⟨node, sl, .slice bo rs.length bcap, rs⟩ : Rv) :: l.drop 0).flatMap rvCells = [.int .i64 node, .int .i64 sl, .slice bo rs.length bcap] := by rw [hl]; rfl
          have hlen : (l.take 0 ++ (⟨node, sl, .slice bo rs.length bcap, rs⟩ : Rv) :: l.drop 0).length = 1 := by rw [hl]; rfl
          have hown2 := HO2.out
          rw [← hcells] at hown2
          have HO3 := Lib.hid (rvs_of_own hlen hown2 HBS.out (HUX.out.trans hu2))
          clear hcells hlen hown2
          have hlI : (0 : Int) ≤ (l.length : Int) := by omega
          have hst : ∀ (ad : Addr) (wx : World), (storeCells ad []).run Try.prog wx = .ok () wx := fun ad wx => by simp [storeCells]
          by_cases hcp : cap = 0
          · go_wp2_with fail
            go_ret2
            exact ⟨_, rfl, hbel.trans (hu2.below.mono hz), HO3.out, by simp [blkOf]; omega⟩
          · go_wp2_with fail
            go_ret2
            exact ⟨_, rfl, hbel.trans (hu2.below.mono hz), HO3.out, by simp [blkOf]; omega⟩
    · have hpos : 0 < l.length := by omega
      obtain ⟨-, b, o, rfl, hbs, -⟩ := hvr.at 0 hpos
      clear hvr
      have haI : (a : Int) ≤ (cap : Int) := by omega
      have ha0I : (0 : Int) ≤ (a : Int) := by omega
      by_cases hna : a < l.length
      · skip
        have hn1 : ((l.take a).flatMap rvCells).length = a * 3 := by rw [rv_len, List.length_take, Nat.min_eq_left ha]
        have N1 := Lib.hid (rvs_take HVR.out a ha)
        have O1 := Lib.hid (show ∀ u ∈ (l.take a).flatMap rvCells, u.oneCell' = true from fun u hu => HONE.out u (flat_take u hu))
        go_wp2_with (at_builtin; refine wpList_append_lies _ rfl (.const (.slice none 0 0)) (.tmp 37) 57 rfl w.heap.size 113 i0 (.agg #[.int .i64 0, .int .i64 0, .slice none 0 0]) 3 40 Try.underlying57 hi hz0 hz1 hz2 rfl (by decide) _ 0 [] rfl (World.ownsRow_nil _ _ _ _) ⟨b, o, none⟩ a cap ((l.take a).flatMap rvCells) rfl hn1 N1.out O1.out (by omega) (by unfold maxLen; omega) (by omega) hz wc.heap.size rfl ?c6v4)
        case c6v4 =>
        intro g1 cap1 w1 hown1 hgrow1 hat1 hlt1
        have hg1 : g1 = wc.heap.size := by rcases hat1 with h | h; (cases h); exact h
        try simp only [Nat.zero_add, List.nil_append] at hown1
        have hu1 : Upd [] wc w1 := (Upd.refl _ _).grown hgrow1 (by intro k hk; cases hk)
        have HO1 := Lib.hid (hown1.alloc (.cells #[.int .i64 node, .int .i64 sl, .slice bo rs.length bcap] 113))
        clear hown1 hat1 hgrow1
        have hbx1 : w1.heap[w.heap.size]? = some (.cells #[.int .i64 node, .int .i64 sl, .slice bo rs.length bcap] 113) := (hu1.block _ lb (by simp)).trans hbox.out
        have x0 : w1.cell? ⟨w.heap.size, 0, none⟩ = some (.int .i64 node) := by rw [block_cell hbx1]; rfl
        have x1 : w1.cell? ⟨w.heap.size, 1, none⟩ = some (.int .i64 sl) := by rw [block_cell hbx1]; rfl
        have x2 : w1.cell? ⟨w.heap.size, 2, none⟩ = some (.slice bo rs.length bcap) := by rw [block_cell hbx1]; rfl
        have hs1 := hu1.size
        go_wp2_with (at_builtin; refine wpList_append_lies _ rfl (.tmp 39) (.tmp 41) 57 rfl w.heap.size 113 i0 (.agg #[.int .i64 0, .int .i64 0, .slice none 0 0]) 3 40 Try.underlying57 hi hz0 hz1 hz2 rfl (by decide) _ a ((l.take a).flatMap rvCells) rfl HO1.out ⟨w1.heap.size, 0, none⟩ 1 1 [.int .i64 node, .int .i64 sl, .slice bo rs.length bcap] rfl rfl one_news one_cells (by decide) (by unfold maxLen; omega) (by omega) (by simp; omega) (w1.heap.size + 1) (by simp) ?d6v4)
        case d6v4 =>
        intro g2 cap2 w2 hown2 hgrow2 hat2 hlt2
        have hu2 : Upd [] wc w2 := (hu1.alloc (.cells #[.int .i64 node, .int .i64 sl, .slice bo rs.length bcap] 113)).grown hgrow2 (by intro k hk; simp [Value.ownBlock] at hk; right; omega)
        have hs2 := hu2.size
        have hg2 : wc.heap.size ≤ g2 := by rcases hat2 with h | h <;> first | (simp [Value.ownBlock] at h; omega) | omega | (simp [Value.ownBlock] at h)
        have hcap2 : a + 1 ≤ cap2 := own_le hown2
        have HO2 := Lib.hid hown2
        clear hown2 hat2 hgrow2
        have hbats : ∀ r ∈ l.take a ++ (⟨node, sl, .slice bo rs.length bcap, rs⟩ : Rv) :: l.drop a, Bat w r.b r.rs ∧ r.rs.length ≤ 100000 := by
          intro r hr
          rcases List.mem_append.1 hr with h | h
          · exact HV.out.2 r (List.mem_of_mem_take h)
          · rcases List.mem_cons.1 h with rfl | h
            · exact ⟨HBT.out, hrs⟩
            · exact HV.out.2 r (List.mem_of_mem_drop h)
        have HBS := Lib.hid hbats
        clear hbats
        have hn3 : ((l.drop a).flatMap rvCells).length = (l.length - a) * 3 := by rw [rv_len, List.length_drop]
        have N3 := Lib.hid (rvs_drop (HVR.out.upd0 hu2) a ha)
        have O3 := Lib.hid (show ∀ u ∈ (l.drop a).flatMap rvCells, u.oneCell' = true from fun u hu => HONE.out u (flat_drop u hu))
        have hlI : (a : Int) ≤ (l.length : Int) := by omega
        have hca : ¬ cap = a := by omega
        go_wp2_with (at_builtin; refine wpList_append_lies _ rfl (.tmp 43) (.tmp 46) 57 rfl w.heap.size 113 i0 (.agg #[.int .i64 0, .int .i64 0, .slice none 0 0]) 3 40 Try.underlying57 hi hz0 hz1 hz2 rfl (by decide) (.slice (some ⟨g2, 0, none⟩) (a + 1) cap2) (a + 1) (((l.take a).flatMap rvCells) ++ [.int .i64 node, .int .i64 sl, .slice bo rs.length bcap]) rfl HO2.out ⟨b, o + a * 3, none⟩ (l.length - a) (cap - a) ((l.drop a).flatMap rvCells) rfl hn3 N3.out O3.out (by omega) (by unfold maxLen; omega) (by omega) (by omega) w2.heap.size rfl ?e6v4)
        case e6v4 =>
        intro g3 cap3 w3 hown3 hgrow3 hat3 hlt3
        have hcells : (l.take a ++ (⟨node, sl, .slice bo rs.length bcap, rs⟩ : Rv) :: l.drop a).flatMap rvCells = (l.take a).flatMap rvCells ++ .int .i64 node :: .int .i64 sl :: .slice bo rs.length bcap :: (l.drop a).flatMap rvCells := by simp [rvCells]
        have hlen : (l.take a ++ (⟨node, sl, .slice bo rs.length bcap, rs⟩ : Rv) :: l.drop a).length = (a + 1) + (l.length - a) := by simp; omega
        rw [← hcells] at hown3
        have hu3 : Upd [] wc w3 := hu2.grown hgrow3 (by intro k hk; simp [Value.ownBlock] at hk; right; omega)
        have hs3 := hu3.size
        have hg3 : wc.heap.size ≤ g3 := by rcases hat3 with h | h <;> first | (simp [Value.ownBlock] at h; omega) | omega
        have HO3 := Lib.hid (rvs_of_own hlen hown3 HBS.out (HUX.out.trans hu3))
        clear hcells hlen hown3 hgrow3 hat3
        go_wp2_with fail
        go_ret2
        exact ⟨_, rfl, hbel.trans (hu3.below.mono hz), HO3.out, by simp [blkOf]; omega⟩
      · skip
        have hn1 : ((l.take a).flatMap rvCells).length = a * 3 := by rw [rv_len, List.length_take, Nat.min_eq_left ha]
        have N1 := Lib.hid (rvs_take HVR.out a ha)
        have O1 := Lib.hid (show ∀ u ∈ (l.take a).flatMap rvCells, u.oneCell' = true from fun u hu => HONE.out u (flat_take u hu))
        go_wp2_with (at_builtin; refine wpList_append_lies _ rfl (.const (.slice none 0 0)) (.tmp 37) 57 rfl w.heap.size 113 i0 (.agg #[.int .i64 0, .int .i64 0, .slice none 0 0]) 3 40 Try.underlying57 hi hz0 hz1 hz2 rfl (by decide) _ 0 [] rfl (World.ownsRow_nil _ _ _ _) ⟨b, o, none⟩ a cap ((l.take a).flatMap rvCells) rfl hn1 N1.out O1.out (by omega) (by unfold maxLen; omega) (by omega) hz wc.heap.size rfl ?c6v5)
        case c6v5 =>
        intro g1 cap1 w1 hown1 hgrow1 hat1 hlt1
        have hg1 : g1 = wc.heap.size := by rcases hat1 with h | h; (cases h); exact h
        try simp only [Nat.zero_add, List.nil_append] at hown1
        have hu1 : Upd [] wc w1 := (Upd.refl _ _).grown hgrow1 (by intro k hk; cases hk)
        have HO1 := Lib.hid (hown1.alloc (.cells #[.int .i64 node, .int .i64 sl, .slice bo rs.length bcap] 113))
        clear hown1 hat1 hgrow1
        have hbx1 : w1.heap[w.heap.size]? = some (.cells #[.int .i64 node, .int .i64 sl, .slice bo rs.length bcap] 113) := (hu1.block _ lb (by simp)).trans hbox.out
        have x0 : w1.cell? ⟨w.heap.size, 0, none⟩ = some (.int .i64 node) := by rw [block_cell hbx1]; rfl
        have x1 : w1.cell? ⟨w.heap.size, 1, none⟩ = some (.int .i64 sl) := by rw [block_cell hbx1]; rfl
        have x2 : w1.cell? ⟨w.heap.size, 2, none⟩ = some (.slice bo rs.length bcap) := by rw [block_cell hbx1]; rfl
        have hs1 := hu1.size
        go_wp2_with (at_builtin; refine wpList_append_lies _ rfl (.tmp 39) (.tmp 41) 57 rfl w.heap.size 113 i0 (.agg #[.int .i64 0, .int .i64 0, .slice none 0 0]) 3 40 Try.underlying57 hi hz0 hz1 hz2 rfl (by decide) _ a ((l.take a).flatMap rvCells) rfl HO1.out ⟨w1.heap.size, 0, none⟩ 1 1 [.int .i64 node, .int .i64 sl, .slice bo rs.length bcap] rfl rfl one_news one_cells (by decide) (by unfold maxLen; omega) (by omega) (by simp; omega) (w1.heap.size + 1) (by simp) ?d6v5)
        case d6v5 =>
        intro g2 cap2 w2 hown2 hgrow2 hat2 hlt2
        have hu2 : Upd [] wc w2 := (hu1.alloc (.cells #[.int .i64 node, .int .i64 sl, .slice bo rs.length bcap] 113)).grown hgrow2 (by intro k hk; simp [Value.ownBlock] at hk; right; omega)
        have hs2 := hu2.size
        have hg2 : wc.heap.size ≤ g2 := by rcases hat2 with h | h <;> first | (simp [Value.ownBlock] at h; omega) | omega | (simp [Value.ownBlock] at h)
        have hcap2 : a + 1 ≤ cap2 := own_le hown2
        have HO2 := Lib.hid hown2
        clear hown2 hat2 hgrow2
        have hbats : ∀ r ∈ l.take a ++ (⟨node, sl, .slice bo rs.length bcap, rs⟩ : Rv) :: l.drop a, Bat w r.b r.rs ∧ r.rs.length ≤ 100000 := by
          intro r hr
          rcases List.mem_append.1 hr with h | h
          · exact HV.out.2 r (List.mem_of_mem_take h)
          · rcases List.mem_cons.1 h with rfl | h
            · exact ⟨HBT.out, hrs⟩
            · exact HV.out.2 r (List.mem_of_mem_drop h)
        have HBS := Lib.hid hbats
        clear hbats
        have hla : l.length = a := by omega
        have hcells : ((l.take a).flatMap rvCells) ++ [.int .i64 node, .int .i64 sl, .slice bo rs.length bcap] = (l.take a ++ (⟨node, sl, .slice bo rs.length bcap, rs⟩ : Rv) :: l.drop a).flatMap rvCells := by rw [← hla, List.drop_length]; simp [rvCells]
        have hlen : (l.take a ++ (⟨node, sl, .slice bo rs.length bcap, rs⟩ : Rv) :: l.drop a).length = (a + 1) := by rw [← hla, List.drop_length]; simp
        have hown2 := HO2.out
        rw [hcells] at hown2
        have HO3 := Lib.hid (rvs_of_own hlen hown2 HBS.out (HUX.out.trans hu2))
        clear hcells hlen hown2
        have hlI : (a : Int) ≤ (l.length : Int) := by omega
        have hst : ∀ (ad : Addr) (wx : World), (storeCells ad []).run Try.prog wx = .ok () wx := fun ad wx => by simp [storeCells]
        by_cases hcp : cap = a
        · go_wp2_with fail
          go_ret2
          exact ⟨_, rfl, hbel.trans (hu2.below.mono hz), HO3.out, by simp [blkOf]; omega⟩
        · go_wp2_with fail
          go_ret2
          exact ⟨_, rfl, hbel.trans (hu2.below.mono hz), HO3.out, by simp [blkOf]; omega⟩

end Go.Proofs.Ytdeadekeffficaa

/- The document's slot as a resource; psephoslaw14.right over resources; a copy that is the caller's own. -/
namespace Go.Proofs.Ytdeadekeffficaa
open Go.RowKit Go.Heap

def RVsIn (w : World) (v : Value) (l : List Rv) (D : List Nat) : Prop := ReadsIn w v 3 l.length (l.flatMap rvCells) D ∧ ∀ r ∈ l, BatIn w r.b r.rs D ∧ r.rs.length ≤ 100000

theorem RVsIn.rvs {w : World} {v : Value} {l : List Rv} {D : List Nat} (h : RVsIn w v l D) : RVs w v l := ⟨h.1.1, fun r hr => ⟨(h.2 r hr).1.1, (h.2 r hr).2⟩⟩
theorem RVsIn.mono {w : World} {v : Value} {l : List Rv} {D D' : List Nat} (h : RVsIn w v l D) (hs : ∀ k ∈ D, k ∈ D') : RVsIn w v l D' := ⟨h.1.mono hs, fun r hr => ⟨(h.2 r hr).1.mono hs, (h.2 r hr).2⟩⟩
theorem RVsIn.dep {w w' : World} {v : Value} {l : List Rv} {D : List Nat} (h : RVsIn w v l D) (hk : ∀ k ∈ D, w'.heap[k]? = w.heap[k]?) (hs : w.heap.size ≤ w'.heap.size) : RVsIn w' v l D := ⟨h.1.dep hk hs, fun r hr => ⟨(h.2 r hr).1.dep hk hs, (h.2 r hr).2⟩⟩

/-- What the document's slot leads to. -/
structure DocIn (w : World) (vb vp vc : Value) (st : Sl) (D : List Nat) : Prop where
  b : BatIn w vb (chosenS st) D
  p : ∃ pl, RVsIn w vp pl D ∧ pl.map rvOf = refs st.ps 0
  c : ∃ cl, RVsIn w vc cl D ∧ cl.map rvOf = refs st.cs 0

theorem DocIn.dep {w w' : World} {vb vp vc : Value} {st : Sl} {D : List Nat} (h : DocIn w vb vp vc st D) (hk : ∀ k ∈ D, w'.heap[k]? = w.heap[k]?) (hs : w.heap.size ≤ w'.heap.size) : DocIn w' vb vp vc st D := by
  obtain ⟨pl, p1, p2⟩ := h.p
  obtain ⟨cl, c1, c2⟩ := h.c
  exact ⟨ReadsIn.dep h.b hk hs, ⟨pl, p1.dep hk hs, p2⟩, cl, c1.dep hk hs, c2⟩

def docR (vb vp vc : Value) (st : Sl) : Res := imm (fun w D => DocIn w vb vp vc st D) (fun h hk hs => h.dep hk hs)
abbrev docO (b : Bool) (vb vp vc : Value) : Obj := .cells #[.bool b, vb, vp, vc] 59 (0, 0)

/-- A slice in a block of the caller's own that holds a batch; one whose contents do not matter. -/
def cpR (v : Value) (l : List Rq) : Res where
  M := blkOf v
  Q := fun w D => w.ownsRow 0 32 6 v l.length (rqsCells l) ∧ D = []
  dep := fun {w w' D} ⟨h, e⟩ hk _ => by
    refine ⟨⟨h.1, ?_⟩, e⟩
    rcases h.2 with hn | ⟨g, cap, cur, rfl, hb, hg, rest⟩
    · exact .inl hn
    · exact .inr ⟨g, cap, cur, rfl, hb, by rw [hk g (.inl (by simp [blkOf]))]; exact hg, rest⟩
  lt := fun {w D} ⟨h, e⟩ k hk => by
    subst e
    rcases h.2 with ⟨rfl, _⟩ | ⟨g, cap, cur, rfl, hb, hg, rest⟩
    · simp [blkOf] at hk
    · simp [blkOf] at hk; subst hk; exact block_lt hg
  sep := fun ⟨_, e⟩ k _ hn => by rw [e] at hn; simp at hn

theorem own_reads {w : World} {B E sz n : Nat} {v : Value} {xs : List Value} (h : w.ownsRow B E sz v n xs) : Reads w v sz n xs := by
  rcases h.2 with ⟨rfl, rfl⟩ | ⟨g, cap, cur, rfl, _⟩
  · have : xs = [] := List.eq_nil_of_length_eq_zero (by simpa using h.1)
    subst this
    exact Reads.nil _ _
  · exact Reads.of_own h

theorem cpR_bat {v : Value} {l : List Rq} {w : World} {A : List Nat} (h : (cpR v l).At w A) : Bat w v l := let ⟨_, h, _⟩ := h; own_reads h.1

/-- A row that is the caller's: n elements of sz cells; whatever they hold. -/
def RowOf (w : World) (E sz : Nat) (v : Value) (n : Nat) : Prop := v = .slice none 0 0 ∧ n = 0 ∨ ∃ g cap cur, v = .slice (some ⟨g, 0, none⟩) n cap ∧ w.heap[g]? = some (.cells cur E (0, 0)) ∧ n ≤ cap ∧ cap ≤ maxLen ∧ cur.size = cap * sz

def rowR (E sz : Nat) (v : Value) (n : Nat) : Res where
  M := blkOf v
  Q := fun w D => RowOf w E sz v n ∧ D = []
  dep := fun {w w' D} ⟨h, e⟩ hk _ => by
    refine ⟨?_, e⟩
    rcases h with hn | ⟨g, cap, cur, rfl, hg, rest⟩
    · exact .inl hn
    · exact .inr ⟨g, cap, cur, rfl, by rw [hk g (.inl (by simp [blkOf]))]; exact hg, rest⟩
  lt := fun {w D} ⟨h, e⟩ k hk => by
    subst e
    rcases h with ⟨rfl, _⟩ | ⟨g, cap, cur, rfl, hg, rest⟩
    · simp [blkOf] at hk
    · simp [blkOf] at hk; subst hk; exact block_lt hg
  sep := fun ⟨_, e⟩ k _ hn => by rw [e] at hn; simp at hn

theorem cpR_row {v : Value} {l : List Rq} {w : World} {A : List Nat} (h : (cpR v l).At w A) : (rowR 32 6 v l.length).At w A := by
  obtain ⟨D, ⟨h1, rfl⟩, h2, h3⟩ := h
  refine ⟨[], ⟨?_, rfl⟩, by simp, h3⟩
  rcases h1.2 with hn | ⟨g, cap, cur, rfl, hb, hg, q1, q2, q3, q4⟩
  · exact .inl hn
  · exact .inr ⟨g, cap, cur, rfl, hg, q1, q2, q3⟩

set_option maxHeartbeats 400000 in
theorem copyR_own (v : Value) (rs : List Rq) (w : World) (hn : rs.length ≤ 100000) (h : Bat w v rs) :
    Calls Try.prog 59 #[v] w fun e w' => ∃ v', e = .returned v' ∧ Upd [] w w' ∧ w'.ownsRow w.heap.size 32 6 v' rs.length (rqsCells rs) := by
  obtain ⟨i0, hi, hz0, hz1, hz2⟩ := info_parts Try.infoReq
  have h' := h
  obtain ⟨ao, cap, rfl, h1, h2, h3, h4, h5⟩ := h'
  clear h1 h2 h3
  cases ao with
  | none =>
    obtain ⟨hr, rfl⟩ := h4 rfl
    have : rs = [] := List.eq_nil_of_length_eq_zero hr
    subst this
    clear hr h4 h5
    go_enter Try.func59, Try.ntmps59
    go_wp2
    go_ret
    exact ⟨_, rfl, Upd.refl _ _, World.ownsRow_nil _ _ _ _⟩
  | some a =>
    clear h4
    by_cases h0 : rs.length = 0
    · have : rs = [] := List.eq_nil_of_length_eq_zero h0
      subst this
      clear h5 h0
      go_enter Try.func59, Try.ntmps59
      go_wp2
      go_ret
      exact ⟨_, rfl, Upd.refl _ _, World.ownsRow_nil _ _ _ _⟩
    · obtain ⟨b, o, hab, hb, hc⟩ := h5 (by omega)
      simp only [Option.some.injEq] at hab
      subst hab
      clear h5
      have hpos : 0 < rs.length := by omega
      clear h0
      have hnews : ∀ j u, (rqsCells rs)[j]? = some u → w.cell? ((⟨b, o, none⟩ : Addr).add j) = some u := by
        intro j u hj
        have hl := (List.getElem?_eq_some_iff.1 hj).1
        rw [rqsCells_length] at hl
        have : (⟨b, o, none⟩ : Addr).add j = ⟨b, o + j, none⟩ := by unfold Addr.add; split <;> simp_all
        rw [this, hc j hl]
        exact hj
      have HN := Lib.hid hnews
      clear hc hnews
      go_enter Try.func59, Try.ntmps59
      go_wp2_with (at_builtin; refine wpList_append_lies _ rfl (.const (.slice none 0 0)) (.tmp 3) 33 rfl w.heap.size 32 i0 (.agg #[.int .i64 0, .int .i64 0, .int .i64 0, .int .i64 0, .int .i64 0, .int .i64 0]) 6 48 Try.underlying33 hi hz0 hz1 hz2 rfl (by decide) _ 0 [] rfl (World.ownsRow_nil _ _ _ _) ⟨b, o, none⟩ rs.length cap (rqsCells rs) rfl (rqsCells_length rs) HN.out (rqsCells_one rs) hpos ?c3 ?c4 (Nat.le_refl _) w.heap.size rfl ?c6)
      case c3 => unfold maxLen; omega
      case c4 => omega
      case c6 =>
        intro g cap2 w2 hown hgrow hat hlt
        have hg : g = w.heap.size := by
          rcases hat with h | h
          · cases h
          · exact h
        subst hg
        try simp only [Nat.zero_add, List.nil_append] at hown
        have HO := Lib.hid hown
        clear hown hat
        go_wp2
        go_ret
        exact ⟨_, rfl, (Upd.refl _ _).grown hgrow (by intro k hk; cases hk), HO.out⟩


theorem RVsIn.add {w w' : World} {D Dr : List Nat} {v u : Value} {pl l : List Rv} {r : Rv} (h : RVsIn w v pl D) (hu : Upd [] w w') (hD : ∀ k ∈ D, k < w.heap.size) (hr : BatIn w' r.b r.rs Dr) (hl : RVs w' u l) (hx : ∀ x ∈ l, x ∈ pl ∨ x = r) : RVsIn w' u l (blkIf l.length u ++ Dr ++ D) := by
  have h' := h.dep (w' := w') (fun k hk => hu.block k (hD k hk) (by simp)) hu.size
  refine ⟨(Reads.lies hl.1).mono (by simp +contextual), fun x hxl => ⟨?_, (hl.2 x hxl).2⟩⟩
  rcases hx x hxl with hx | rfl
  · exact (h'.2 x hx).1.mono (by simp +contextual)
  · exact hr.mono (by simp +contextual)

theorem docR_ps {w : World} {A : List Nat} {vb vp vc : Value} {st : Sl} (h : (docR vb vp vc st).At w A) : ∃ pl, RVs w vp pl ∧ pl.map rvOf = refs st.ps 0 ∧
    ∀ (w' : World) (u : Value) (r : Rv) (l : List Rv) (st' : Sl), Upd [] w w' → (batR r.b r.rs).At w' A → RVs w' u l → (∀ x ∈ l, x ∈ pl ∨ x = r) → l.map rvOf = refs st'.ps 0 → st'.cs = st.cs → chosenS st' = chosenS st → (∀ k ∈ blkOf u, k ∉ A) → (docR vb u vc st').At w' A := by
  obtain ⟨D, ⟨h1, h2⟩, h3, h4⟩ := h
  obtain ⟨pl, p1, p2⟩ := h1.p
  obtain ⟨cl, c1, c2⟩ := h1.c
  refine ⟨pl, p1.rvs, p2, fun w' u r l st' hu hb hl hx hm hc hch hA => ?_⟩
  obtain ⟨Dr, ⟨b1, b2⟩, b3, b4⟩ := hb
  have hd := h1.dep (w' := w') (fun k hk => hu.block k (h2 k hk) (by simp)) hu.size
  obtain ⟨cl', c1', c2'⟩ := hd.c
  refine ⟨blkIf l.length u ++ Dr ++ D, ⟨⟨?_, ⟨l, p1.add hu h2 b1 hl hx, hm⟩, ⟨cl', c1'.mono (by simp +contextual), by rw [hc]; exact c2'⟩⟩, fun k hk => ?_⟩, fun k hk => ?_, b4⟩
  · rw [hch]; exact ReadsIn.mono hd.b (by simp +contextual)
  · simp only [List.mem_append, or_assoc] at hk
    rcases hk with hk | hk | hk
    · exact Reads.lies_lt hl.1 k hk
    · exact b2 k hk
    · exact Nat.lt_of_lt_of_le (h2 k hk) hu.size
  · simp only [List.mem_append, or_assoc] at hk
    rcases hk with hk | hk | hk
    · exact hA k (blkIf_sub hk)
    · exact b3 k hk
    · exact h3 k hk

theorem docR_cs {w : World} {A : List Nat} {vb vp vc : Value} {st : Sl} (h : (docR vb vp vc st).At w A) : ∃ cl, RVs w vc cl ∧ cl.map rvOf = refs st.cs 0 ∧
    ∀ (w' : World) (u : Value) (r : Rv) (l : List Rv) (st' : Sl), Upd [] w w' → (batR r.b r.rs).At w' A → RVs w' u l → (∀ x ∈ l, x ∈ cl ∨ x = r) → l.map rvOf = refs st'.cs 0 → st'.ps = st.ps → chosenS st' = chosenS st → (∀ k ∈ blkOf u, k ∉ A) → (docR vb vp u st').At w' A := by
  obtain ⟨D, ⟨h1, h2⟩, h3, h4⟩ := h
  obtain ⟨cl, c1, c2⟩ := h1.c
  refine ⟨cl, c1.rvs, c2, fun w' u r l st' hu hb hl hx hm hc hch hA => ?_⟩
  obtain ⟨Dr, ⟨b1, b2⟩, b3, b4⟩ := hb
  have hd := h1.dep (w' := w') (fun k hk => hu.block k (h2 k hk) (by simp)) hu.size
  obtain ⟨pl', p1', p2'⟩ := hd.p
  refine ⟨blkIf l.length u ++ Dr ++ D, ⟨⟨?_, ⟨pl', p1'.mono (by simp +contextual), by rw [hc]; exact p2'⟩, ⟨l, c1.add hu h2 b1 hl hx, hm⟩⟩, fun k hk => ?_⟩, fun k hk => ?_, b4⟩
  · rw [hch]; exact ReadsIn.mono hd.b (by simp +contextual)
  · simp only [List.mem_append, or_assoc] at hk
    rcases hk with hk | hk | hk
    · exact Reads.lies_lt hl.1 k hk
    · exact b2 k hk
    · exact Nat.lt_of_lt_of_le (h2 k hk) hu.size
  · simp only [List.mem_append, or_assoc] at hk
    rcases hk with hk | hk | hk
    · exact hA k (blkIf_sub hk)
    · exact b3 k hk
    · exact h3 k hk

theorem rv_len13 {ps : List Vt} {pl : List Rv} (h : pl.map rvOf = refs ps 0) : pl.length ≤ ps.length := by
  have := congrArg List.length h
  have h2 := refs_length ps 0
  simp only [List.length_map] at this
  omega

section
variable {B : Nat} {w0 W W' : World} {rs : List Res} {L : Loc} {st : Sl} {q : Nat} {vb vp vc : Value}

theorem own_right (h : Own B w0 W (slotR L st :: blk q (docO st.has vb vp vc) :: docR vb vp vc st :: rs)) (hf1 : 1 ≤ L.f) (hf2 : L.f ≤ 4) :
    Calls Try.prog 32 #[L.ptr, .pointer (some ⟨q, 0, none⟩), .int .i64 L.f] W fun e w' => e = .returned (.bool true) ∧ Upd [] W w' := by
  have hws : Ws 0 W W [(L, st)] [] [] := ⟨(Below.refl W.heap.size W).mono (Nat.zero_le _), Nat.zero_le _, fun p hp => by
    rcases List.mem_singleton.1 hp with rfl
    exact ⟨fun _ _ => Nat.zero_le _, (own_on h).avoid (fun k hk => by simp [outs, avoid] at hk; exact (Ms_cons _ _ _).2 (.inl hk))⟩, .cons (by simp) .nil, by simp, by simp⟩
  obtain ⟨D, ⟨hd, _⟩, _, _⟩ := h.drop.drop.head
  obtain ⟨pl, p1, p2⟩ := hd.p
  obtain ⟨cl, c1, c2⟩ := hd.c
  refine (right_any hws q L.f rfl hf1 hf2 ⟨vb, vp, vc, h.drop.blk_out, hd.b.bat, ⟨pl, p1.rvs, p2⟩, cl, c1.rvs, c2⟩ ?_).mono ?_
  · unfold chosenS; split
    · exact (own_small h).1
    · simp
  · rintro e w' ⟨rfl, _, hu⟩
    exact ⟨rfl, hu⟩

end
end Go.Proofs.Ytdeadekeffficaa

/- psephoslaw14.do: an act of both. -/
namespace Go.Proofs.Ytdeadekeffficaa
open Go.RowKit Go.Heap

abbrev actO (a : Ac) : Obj := .cells #[.int .i64 a.act, .int .i64 a.kind, .int .i64 a.node, .int .i64 a.sl, .int .i64 a.which, a.b] 50 (0, 0)

theorem act_box {w : World} {b : Nat} {a : Ac} (h : w.heap[b]? = some (actO a)) : w.cell? ⟨b, 0, none⟩ = some (.int .i64 a.act) ∧ w.cell? ⟨b, 1, none⟩ = some (.int .i64 a.kind) ∧ w.cell? ⟨b, 2, none⟩ = some (.int .i64 a.node) ∧
    w.cell? ⟨b, 3, none⟩ = some (.int .i64 a.sl) ∧ w.cell? ⟨b, 4, none⟩ = some (.int .i64 a.which) ∧ w.cell? ⟨b, 5, none⟩ = some a.b :=
  ⟨by rw [block_cell h]; rfl, by rw [block_cell h]; rfl, by rw [block_cell h]; rfl, by rw [block_cell h]; rfl, by rw [block_cell h]; rfl, by rw [block_cell h]; rfl⟩

theorem act_bat {B : Nat} {w0 W : World} {rs : List Res} {v : Value} {l : List Rq} (h : Own B w0 W rs) (hB : B = w0.heap.size) (hb : Bat w0 v l) : Bat W v l := by
  subst hB
  exact hb.upd (Upd.of_below (M := []) h.below) (by simp)

theorem batchS_le (a : Ac) : (batchS a).length ≤ 3 := by
  unfold batchS
  split
  · simp
  · split
    · simp
    · simp; omega

theorem own_cp {B : Nat} {w0 W W' : World} {r1 r2 r3 r4 : Res} {rs : List Res} {v : Value} {l : List Rq} (h : Own B w0 W (r1 :: r2 :: r3 :: r4 :: rs)) (hu : Upd [] W W') (ho : W'.ownsRow W.heap.size 32 6 v l.length (rqsCells l)) :
    Own B w0 W' (r1 :: r2 :: r3 :: cpR v l :: r4 :: rs) := by
  have h1 : Own B w0 W' (cpR v l :: r1 :: r2 :: r3 :: r4 :: rs) := h.new hu ⟨[], ⟨⟨ho.1, ho.2.imp id fun ⟨g, cap, cur, e, hb, hg⟩ => ⟨g, cap, cur, e, Nat.zero_le _, hg⟩⟩, rfl⟩, by simp, fun k hk => Nat.lt_of_lt_of_le (h.lt k hk) hu.size⟩ (fun k hk => by
    rcases ho.2 with ⟨rfl, _⟩ | ⟨g, cap, cur, rfl, hb, _⟩
    · simp [cpR, blkOf] at hk
    · simp [cpR, blkOf] at hk; omega)
  exact h1.perm3

theorem doc_cells {w : World} {q : Nat} {b : Bool} {vb vp vc : Value} (h : w.heap[q]? = some (docO b vb vp vc)) : w.cell? ⟨q, 0, none⟩ = some (.bool b) ∧ w.cell? ⟨q, 1, none⟩ = some vb ∧ w.cell? ⟨q, 2, none⟩ = some vp ∧ w.cell? ⟨q, 3, none⟩ = some vc ∧ ∀ o, w.frozen? ⟨q, o, none⟩ = false :=
  ⟨by rw [block_cell h]; rfl, by rw [block_cell h]; rfl, by rw [block_cell h]; rfl, by rw [block_cell h]; rfl, block_frozen h⟩

/-- Behind an act: both go on, and the act's copy is the caller's own. -/
def DoS (B : Nat) (w0 w : World) (s f q : Nat) (v : Value) (n : Nat) (rs : List Res) : Prop :=
  ∃ L st vb vp vc, L.f = f ∧ L.s = s ∧ Own B w0 w (slotR L st :: blk q (docO st.has vb vp vc) :: docR vb vp vc st :: rowR 32 6 v n :: rs)

theorem doS_of {B : Nat} {w0 w : World} {s f q : Nat} {L : Loc} {st : Sl} {vb vp vc v : Value} {l : List Rq} {x : Res} {rs : List Res} {b : Bool} (hb : st.has = b) (h : Own B w0 w (slotR L st :: blk q (docO b vb vp vc) :: docR vb vp vc st :: cpR v l :: x :: rs)) (hf : L.f = f) (hs : L.s = s) : DoS B w0 w s f q v l.length rs := by
  subst hb
  have h1 := h.perm3'
  have h2 := h1.alter (r' := rowR 32 6 v l.length) (cpR_row h1.head) (fun k hk => hk)
  have h3 : Own B w0 w (x :: rowR 32 6 v l.length :: slotR L st :: blk q (docO st.has vb vp vc) :: docR vb vp vc st :: rs) := h2.perm (by
    refine List.Perm.trans ?_ (List.Perm.swap _ _ _)
    exact List.Perm.cons _ (List.perm_middle (l₁ := [_, _, _])))
  exact ⟨L, st, vb, vp, vc, hf, hs, h3.drop.perm3⟩

theorem docR_pre {w : World} {A : List Nat} {vb vp vc v : Value} {st : Sl} {l : List Rq} (h : (docR vb vp vc st).At w A) (hb : Bat w v l) (hA : ∀ k ∈ blkIf l.length v, k ∉ A) : (docR v vp vc { st with has := true, batch := l }).At w A := by
  obtain ⟨D, ⟨h1, h2⟩, h3, h4⟩ := h
  obtain ⟨pl, p1, p2⟩ := h1.p
  obtain ⟨cl, c1, c2⟩ := h1.c
  refine ⟨blkIf l.length v ++ D, ⟨⟨?_, ⟨pl, p1.mono (by simp +contextual), p2⟩, cl, c1.mono (by simp +contextual), c2⟩, fun k hk => ?_⟩, fun k hk => ?_, h4⟩
  · exact hb.lies.mono (by simp +contextual)
  · rcases List.mem_append.1 hk with hk | hk
    · exact Reads.lies_lt hb k hk
    · exact h2 k hk
  · rcases List.mem_append.1 hk with hk | hk
    · exact hA k hk
    · exact h3 k hk

theorem own_doc1 {B : Nat} {w0 w : World} {q : Nat} {o : Obj} {sr : Res} {st : Sl} {vb vp vc v : Value} {l : List Rq} {rs : List Res} (h : Own B w0 w (sr :: blk q o :: docR vb vp vc st :: rs)) (hb : Bat w v l) (hA : ∀ k ∈ blkIf l.length v, k ∉ Ms (docR vb vp vc st :: sr :: blk q o :: rs)) :
    Own B w0 w (sr :: blk q o :: docR v vp vc { st with has := true, batch := l } :: rs) :=
  (h.rot.alter (docR_pre h.rot.head hb hA) (fun _ hk => hk)).rot'

theorem refs_none : ∀ (n k : Nat), refs (List.replicate n noVt) k = []
  | 0, _ => rfl
  | n + 1, k => by
    rw [List.replicate_succ, refs, if_neg (by simp [noVt])]
    exact refs_none n (k + 1)

theorem own_doc0 {B : Nat} {w0 w : World} {q : Nat} {o : Obj} {sr : Res} {st : Sl} {vb vp vc : Value} {rs : List Res} (f : Nat) (h : Own B w0 w (sr :: blk q o :: docR vb vp vc st :: rs)) :
    Own B w0 w (sr :: blk q o :: docR (.slice none 0 0) (.slice none 0 0) (.slice none 0 0) (emptySl f) :: rs) := by
  refine (h.rot.alter (r' := docR (.slice none 0 0) (.slice none 0 0) (.slice none 0 0) (emptySl f)) ⟨[], ⟨⟨ReadsIn.nil _ _ _, ⟨[], ⟨ReadsIn.nil _ _ _, by simp⟩, ?_⟩, ⟨[], ⟨ReadsIn.nil _ _ _, by simp⟩, ?_⟩⟩, by simp⟩, by simp, fun k hk => h.rot.lt k hk⟩ (fun _ hk => hk)).rot'
  · simp [emptySl, refs_none]
  · simp [emptySl, refs_none]

theorem row_form {E sz n : Nat} {v : Value} {w : World} {A : List Nat} (h : (rowR E sz v n).At w A) : ∃ ao cap, v = .slice ao n cap := by
  obtain ⟨D, ⟨h1, _⟩, _, _⟩ := h
  rcases h1 with ⟨rfl, rfl⟩ | ⟨g, cap, cur, rfl, _⟩
  · exact ⟨none, 0, rfl⟩
  · exact ⟨_, cap, rfl⟩

theorem row_at {E sz n cap k : Nat} {ao : Option Addr} {w : World} {A : List Nat} (h : (rowR E sz (.slice ao n cap) n).At w A) (hk : k < n) : ∃ g cur, ao = some ⟨g, 0, none⟩ ∧ w.heap[g]? = some (.cells cur E (0, 0)) ∧ n * sz ≤ cur.size ∧ cap ≤ maxLen := by
  obtain ⟨D, ⟨h1, _⟩, _, _⟩ := h
  rcases h1 with ⟨h1, rfl⟩ | ⟨g, cap', cur, h1, h2, h3, h4, h5⟩
  · omega
  · simp only [Value.slice.injEq] at h1
    obtain ⟨rfl, -, rfl⟩ := h1
    exact ⟨g, cur, rfl, h2, by rw [h5]; exact Nat.mul_le_mul_right _ h3, h4⟩

theorem row_cells {w : World} {g E n : Nat} {cur : Array Value} (h : w.heap[g]? = some (.cells cur E (0, 0))) (hs : n ≤ cur.size) : ∀ j, j < n → ∃ x, w.cell? ⟨g, j, none⟩ = some x :=
  fun j hj => ⟨cur[j], by rw [block_cell h]; exact Array.getElem?_eq_getElem (by omega)⟩

theorem row_set {E sz n cap g : Nat} {w : World} {A : List Nat} (h : (rowR E sz (.slice (some ⟨g, 0, none⟩) n cap) n).At w A) (j : Nat) (v : Value) : (rowR E sz (.slice (some ⟨g, 0, none⟩) n cap) n).At (w.setCell ⟨g, j, none⟩ v) A := by
  obtain ⟨D, ⟨h1, rfl⟩, h2, h3⟩ := h
  refine ⟨[], ⟨?_, rfl⟩, by simp, fun k hk => by rw [hs_set]; exact h3 k hk⟩
  rcases h1 with ⟨h1, -⟩ | ⟨g', cap', cur, h1, hg, q1, q2, q3⟩
  · simp at h1
  · simp only [Value.slice.injEq, Option.some.injEq, Addr.mk.injEq, and_true, true_and] at h1
    obtain ⟨rfl, rfl⟩ := h1
    exact .inr ⟨g, cap, cur.setIfInBounds j v, rfl, by rw [hp_same rfl, hg]; rfl, q1, q2, by simpa using q3⟩

def inR (f : Nat) (n : Int) : Bool := decide (0 ≤ n) && decide (n < 3 * (f : Int) + 1)
theorem inR_yes {f : Nat} {n : Int} (h : 0 ≤ n) : inR f n = decide (n < 3 * (f : Int) + 1) := by simp [inR, h]
theorem inR_no {f : Nat} {n : Int} (h : ¬ 0 ≤ n) : inR f n = false := by simp [inR, h]

theorem inR_nat {f : Nat} {n : Int} (h : inR f n = true) : ∃ m : Nat, n = m ∧ m < 3 * f + 1 := by
  simp [inR] at h
  exact ⟨n.toNat, by omega, by omega⟩

theorem openB_out {l : List Vt} {f : Nat} {n : Int} (hl : l.length = 3 * f + 1) (h : inR f n = false) : openB l n = false := by
  unfold openB
  by_cases h0 : 0 ≤ n
  · rw [inR_yes h0] at h
    simp at h
    rw [List.getElem?_eq_none (by omega)]
    simp
  · simp [h0]

theorem canVote_out {st : Sl} {f : Nat} {kind n : Int} (hl : st.ps.length = 3 * f + 1 ∧ st.cs.length = 3 * f + 1) (h : inR f n = false) : canVote st kind n = false := by
  unfold canVote listOf
  split
  · exact openB_out hl.1 h
  · split
    · exact openB_out hl.2 h
    · simp [openB]

theorem voteS_no {st : Sl} {kind n sl : Int} {l : List Rq} (h : canVote st kind n = false) : voteS st kind n sl l = st := by
  unfold voteS; rw [h]; rfl

theorem new_three {w w3 : World} {a b c : Value} {T : TypeId} (h : Below (w.alloc (.cells #[a, b, c] T)).drew.heap.size (w.alloc (.cells #[a, b, c] T)).drew w3) :
    w3.cell? ⟨w.heap.size, 0, none⟩ = some a ∧ w3.cell? ⟨w.heap.size, 1, none⟩ = some b ∧ w3.cell? ⟨w.heap.size, 2, none⟩ = some c ∧ w3.frozen? ⟨w.heap.size, 0, none⟩ = false ∧ w3.frozen? ⟨w.heap.size, 1, none⟩ = false ∧ w3.frozen? ⟨w.heap.size, 2, none⟩ = false := by
  have hb : w3.heap[w.heap.size]? = some (.cells #[a, b, c] T (0, 0)) := (h.block _ (by rw [hs_drew, hs_alloc]; omega)).trans (heap_alloc_new w _)
  exact ⟨by rw [block_cell hb]; rfl, by rw [block_cell hb]; rfl, by rw [block_cell hb]; rfl, block_frozen hb _, block_frozen hb _, block_frozen hb _⟩

section
variable {w : World} {b c : Nat} {x0 x1 x2 x3 x4 x5 y0 y1 y2 : Value} {o : Obj}
theorem k6_alloc (h : b < w.heap.size) (k : w.cell? ⟨b, 0, none⟩ = some x0 ∧ w.cell? ⟨b, 1, none⟩ = some x1 ∧ w.cell? ⟨b, 2, none⟩ = some x2 ∧ w.cell? ⟨b, 3, none⟩ = some x3 ∧ w.cell? ⟨b, 4, none⟩ = some x4 ∧ w.cell? ⟨b, 5, none⟩ = some x5) :
    (w.alloc o).cell? ⟨b, 0, none⟩ = some x0 ∧ (w.alloc o).cell? ⟨b, 1, none⟩ = some x1 ∧ (w.alloc o).cell? ⟨b, 2, none⟩ = some x2 ∧ (w.alloc o).cell? ⟨b, 3, none⟩ = some x3 ∧ (w.alloc o).cell? ⟨b, 4, none⟩ = some x4 ∧ (w.alloc o).cell? ⟨b, 5, none⟩ = some x5 := by
  have e : ∀ i, (w.alloc o).cell? ⟨b, i, none⟩ = w.cell? ⟨b, i, none⟩ := fun i => World.cell?_of_block (heap_alloc_lt h)
  simp only [e]
  exact k
theorem k6_alloc' (h : b < w.heap.size) (k : w.drew.cell? ⟨b, 0, none⟩ = some x0 ∧ w.drew.cell? ⟨b, 1, none⟩ = some x1 ∧ w.drew.cell? ⟨b, 2, none⟩ = some x2 ∧ w.drew.cell? ⟨b, 3, none⟩ = some x3 ∧ w.drew.cell? ⟨b, 4, none⟩ = some x4 ∧ w.drew.cell? ⟨b, 5, none⟩ = some x5) :
    (w.alloc o).drew.cell? ⟨b, 0, none⟩ = some x0 ∧ (w.alloc o).drew.cell? ⟨b, 1, none⟩ = some x1 ∧ (w.alloc o).drew.cell? ⟨b, 2, none⟩ = some x2 ∧ (w.alloc o).drew.cell? ⟨b, 3, none⟩ = some x3 ∧ (w.alloc o).drew.cell? ⟨b, 4, none⟩ = some x4 ∧ (w.alloc o).drew.cell? ⟨b, 5, none⟩ = some x5 := k6_alloc (w := w) h k
theorem k6_sets (h : b ≠ c) (k : w.cell? ⟨b, 0, none⟩ = some x0 ∧ w.cell? ⟨b, 1, none⟩ = some x1 ∧ w.cell? ⟨b, 2, none⟩ = some x2 ∧ w.cell? ⟨b, 3, none⟩ = some x3 ∧ w.cell? ⟨b, 4, none⟩ = some x4 ∧ w.cell? ⟨b, 5, none⟩ = some x5) :
    (((w.setCell ⟨c, 0, none⟩ y0).setCell ⟨c, 1, none⟩ y1).setCell ⟨c, 2, none⟩ y2).cell? ⟨b, 0, none⟩ = some x0 ∧ (((w.setCell ⟨c, 0, none⟩ y0).setCell ⟨c, 1, none⟩ y1).setCell ⟨c, 2, none⟩ y2).cell? ⟨b, 1, none⟩ = some x1 ∧
    (((w.setCell ⟨c, 0, none⟩ y0).setCell ⟨c, 1, none⟩ y1).setCell ⟨c, 2, none⟩ y2).cell? ⟨b, 2, none⟩ = some x2 ∧ (((w.setCell ⟨c, 0, none⟩ y0).setCell ⟨c, 1, none⟩ y1).setCell ⟨c, 2, none⟩ y2).cell? ⟨b, 3, none⟩ = some x3 ∧
    (((w.setCell ⟨c, 0, none⟩ y0).setCell ⟨c, 1, none⟩ y1).setCell ⟨c, 2, none⟩ y2).cell? ⟨b, 4, none⟩ = some x4 ∧ (((w.setCell ⟨c, 0, none⟩ y0).setCell ⟨c, 1, none⟩ y1).setCell ⟨c, 2, none⟩ y2).cell? ⟨b, 5, none⟩ = some x5 := by
  have e : ∀ i, (((w.setCell ⟨c, 0, none⟩ y0).setCell ⟨c, 1, none⟩ y1).setCell ⟨c, 2, none⟩ y2).cell? ⟨b, i, none⟩ = w.cell? ⟨b, i, none⟩ := fun i => World.cell?_of_block (by rw [hp_other h, hp_other h, hp_other h])
  simp only [e]
  exact k
end

theorem own_batR {B : Nat} {w0 w : World} {v : Value} {l : List Rq} {rs : List Res} (h : Own B w0 w rs) (hb : Bat w v l) (hk : ∀ k ∈ blkIf l.length v, k ∉ Ms rs) : Own B w0 w (batR v l :: rs) :=
  h.new (Upd.refl [] _) ⟨blkIf l.length v, ⟨hb.lies, Reads.lies_lt hb⟩, hk, fun k hkA => h.lt k hkA⟩ (by simp [batR, imm])

theorem own_docp {B : Nat} {w0 w : World} {r1 r2 r3 r4 d : Res} {rs : List Res} (h : Own B w0 w (r1 :: r2 :: r3 :: r4 :: d :: rs)) : Own B w0 w (d :: r1 :: r2 :: r3 :: r4 :: rs) := h.perm (List.perm_middle (l₁ := [_, _, _, _]))
theorem own_docp' {B : Nat} {w0 w : World} {r1 r2 r3 r4 d : Res} {rs : List Res} (h : Own B w0 w (d :: r1 :: r2 :: r3 :: r4 :: rs)) : Own B w0 w (r1 :: r2 :: r3 :: r4 :: d :: rs) := h.perm (List.perm_middle (l₁ := [_, _, _, _])).symm

section
variable {st : Sl} {kind node : Int} {m : Nat}
theorem can_no4 (hk : kind = 4) (hn : node = m) (hm : m < st.ps.length) (hh : st.ps[m].has = true) : canVote st kind node = false := by
  subst hk hn; simp [canVote, listOf, openB, hm, hh]
theorem can_no5 (hk : kind = 5) (hn : node = m) (hm : m < st.cs.length) (hh : st.cs[m].has = true) : canVote st kind node = false := by
  subst hk hn; simp [canVote, listOf, openB, hm, hh]
theorem can_yes4 (hk : kind = 4) (hn : node = m) (hm : m < st.ps.length) (hh : st.ps[m].has = false) : canVote st kind node = true := by
  subst hk hn; simp [canVote, listOf, openB, hm, hh]
theorem can_yes5 (hk : kind = 5) (hn : node = m) (hm : m < st.cs.length) (hh : st.cs[m].has = false) : canVote st kind node = true := by
  subst hk hn; simp [canVote, listOf, openB, hm, hh]
theorem vote_yes4 (hk : kind = 4) (hn : node = m) (hm : m < st.ps.length) (hh : st.ps[m].has = false) (sl : Int) (l : List Rq) : voteS st kind node sl l = { st with ps := st.ps.set m ⟨true, sl, l⟩ } := by
  unfold voteS; rw [can_yes4 hk hn hm hh]; subst hk hn; simp
theorem vote_yes5 (hk : kind = 5) (hn : node = m) (hm : m < st.cs.length) (hh : st.cs[m].has = false) (sl : Int) (l : List Rq) : voteS st kind node sl l = { st with cs := st.cs.set m ⟨true, sl, l⟩ } := by
  unfold voteS; rw [can_yes5 hk hn hm hh]; subst hk hn; simp
theorem can_other (h4 : kind ≠ 4) (h5 : kind ≠ 5) : canVote st kind node = false := by
  simp [canVote, listOf, openB, h4, h5]
end

theorem mem_parts {α : Type} {l : List α} {i : Nat} {r : α} : ∀ x ∈ l.take i ++ r :: l.drop i, x ∈ l ∨ x = r := by
  intro x hx
  rcases List.mem_append.1 hx with hx | hx
  · exact .inl (List.mem_of_mem_take hx)
  · rcases List.mem_cons.1 hx with rfl | hx
    · exact .inr rfl
    · exact .inl (List.mem_of_mem_drop hx)

theorem rvs_form {w : World} {u : Value} {l : List Rv} (h : RVs w u l) : ∃ ao n cap, u = .slice ao n cap := let ⟨ao, cap, hv, _⟩ := h.1; ⟨ao, _, cap, hv⟩

/-- What an act's batch lies in is nobody's own. -/
theorem batch_out {B : Nat} {w0 w w' : World} {a : Ac} {v : Value} {rs : List Res} (h : Own B w0 w rs) (hB : B = w0.heap.size) (ha : Bat w0 a.b a.rs) (hk : ∀ k ∈ blkIf (batchS a).length v, (w.heap.size ≤ k ∧ k < w'.heap.size) ∨ k ∈ blkIf a.rs.length a.b) : ∀ k ∈ blkIf (batchS a).length v, k ∉ Ms rs := by
  intro k hkv
  rcases hk k hkv with hk | hk
  · exact h.fresh hk.1
  · exact h.elder (by rw [hB]; exact Reads.lies_lt ha k hk)

set_option maxHeartbeats 2000000 in
set_option maxRecDepth 100000 in
theorem do_any {B : Nat} {w0 W : World} {L : Loc} {st : Sl} {q : Nat} {vb vp vc : Value} {rs : List Res} (a : Ac) (h : Own B w0 W (slotR L st :: blk q (docO st.has vb vp vc) :: docR vb vp vc st :: rs)) (f : Nat) (hf : L.f = f) (hf1 : 1 ≤ f) (hf2 : f ≤ 4)
    (hB : B = w0.heap.size) (ha : Bat w0 a.b a.rs) :
    Calls Try.prog 30 #[L.ptr, .pointer (some ⟨q, 0, none⟩), .int .i64 f, .agg #[.int .i64 a.act, .int .i64 a.kind, .int .i64 a.node, .int .i64 a.sl, .int .i64 a.which, a.b]] W fun e w' =>
      e = .returned (.bool true) ∧ ∃ L' st' vb' vp' vc', L'.f = f ∧ L'.s = L.s ∧ Own B w0 w' (slotR L' st' :: blk q (docO st'.has vb' vp' vc') :: docR vb' vp' vc' st' :: rs) := by
  have H := Lib.hid h
  have HF := Lib.hid hf
  have HB := Lib.hid hB
  have HA := Lib.hid ha
  clear h hf hB ha
  have H1 := Lib.hid (H.out.box (actO a)).perm3
  go_enter Try.func30, Try.ntmps30
  go_wp2_with fail
  have HA1 := Lib.hid (act_bat H1.out HB.out HA.out)
  refine (batch_any a _ HA1.out).mono ?_
  rintro e w1 ⟨v1, rfl, hb1, bat1, bl1⟩
  have H2 := Lib.hid (H1.out.to hb1)
  have T1 := Lib.hid bat1
  have hsl := batchS_le a
  clear hb1 bat1 bl1
  go_wp2_with fail
  refine (copyR_own v1 (batchS a) _ (by omega) T1.out).mono ?_
  rintro e w2 ⟨v2, rfl, hu2, own2⟩
  have H3 := Lib.hid (own_cp H2.out hu2 own2)
  clear hu2 own2 T1 H1 H2 HA1
  obtain ⟨b0, b1, b2, b3, b4, b5⟩ := act_box H3.out.drop.drop.drop.drop.blk_out
  go_wp2_with fail
  refine (Within_any a.act 10 _ (by omega) (by omega)).mono ?_
  rintro e w' ⟨rfl, rfl⟩
  obtain ⟨k1, k2⟩ := emod_in a.act 10 (by omega)
  generalize a.act % 10 = k at *
  go_upto_block 0 with fail
  go_cut [10] (fun ok wx => ok = .bool true ∧ Hid (DoS B w0 wx L.s f q v2 (batchS a).length rs))
  case first =>
    obtain ⟨c0, c1, c2, c3, fz⟩ := doc_cells H3.out.drop.blk_out
    have T3 := Lib.hid (cpR_bat H3.out.drop.drop.drop.head)
    have fz0 := fz 0
    have fz1 := fz 1
    have fz2 := fz 2
    have fz3 := fz 3
    clear fz
    by_cases hk0 : k = 0
    · have hkb : (k == 0) = true := by simp [hk0]
      clear hk0 k1 k2
      by_cases hh : st.has = true
      · rw [hh] at c0
        have HH := Lib.hid hh
        clear hh
        go_wp2_with fail
        refine (own_pre H3.out v2 (batchS a) T3.out (by omega)).mono ?_
        rintro e w4 ⟨rfl, -, h4⟩
        rw [HH.out, if_pos rfl] at h4
        rw [HH.out]
        have H4 := Lib.hid h4
        clear h4
        go_wp2_with fail
        go_meet
        exact ⟨rfl, Lib.hid (doS_of HH.out H4.out HF.out rfl)⟩
      · have hh' : st.has = false := by simpa using hh
        rw [hh'] at c0
        have HH := Lib.hid hh'
        clear hh hh'
        have HA3 := Lib.hid (act_bat H3.out HB.out HA.out)
        go_wp2_with fail
        refine (batch_any a _ HA3.out).mono ?_
        rintro e w3 ⟨v3, rfl, hb3, bat3, bl3⟩
        obtain ⟨ao3, cap3, rfl⟩ := bat_form bat3
        have BO := Lib.hid (batch_out H3.out.rot HB.out HA.out bl3)
        have H4 := Lib.hid (own_doc1 (H3.out.to hb3) bat3 BO.out)
        clear hb3 bat3 bl3 c0 c1 c2 c3 fz0 fz1 fz2 fz3 b0 b1 b2 b3 b4 b5 HA3 T3 BO
        obtain ⟨c0, c1, -, -, fz⟩ := doc_cells H4.out.drop.blk_out
        have fz0 := fz 0
        have fz1 := fz 1
        rw [HH.out] at c0
        clear fz
        go_wp2_with fail
        have H5 := Lib.hid (((H4.out.swap.store 0 (.bool true)).store 1 (.slice ao3 (batchS a).length cap3)).swap)
        have T5 := Lib.hid (cpR_bat H5.out.drop.drop.drop.head)
        generalize (w3.setCell { block := q, off := 0 } (.bool true)).setCell { block := q, off := 1 } (.slice ao3 (batchS a).length cap3) = w5 at *
        clear c0 c1 fz0 fz1
        refine (own_pre H5.out v2 (batchS a) T5.out (by omega)).mono ?_
        rintro e w6 ⟨rfl, -, h6⟩
        rw [HH.out, if_neg (by simp)] at h6
        rw [HH.out]
        have H6 := Lib.hid h6
        clear h6
        go_wp2_with fail
        go_meet
        exact ⟨rfl, Lib.hid (doS_of (st := { st with has := true, batch := batchS a }) rfl H6.out HF.out rfl)⟩
    · have hkb : (k == 0) = false := by simp [hk0]
      by_cases hk9 : k < 9
      · have hk9b : decide (k < 9) = true := by simp [hk9]
        clear hk0 hk9 k1 k2
        go_upto_if 61 with fail
        go_cut [61] (fun t wx => t = .bool (inR f a.node) ∧ Hid (Own B w0 wx (slotR L st :: blk q (docO st.has vb vp vc) :: docR vb vp vc st :: cpR v2 (batchS a) :: blk W.heap.size (actO a) :: rs)))
        case first =>
          by_cases h0 : 0 ≤ a.node
          · have hd : decide (0 ≤ a.node) = true := by simp [h0]
            have b2d : w2.drew.cell? ⟨W.heap.size, 2, none⟩ = some (.int .i64 a.node) := b2
            go_region_held3 (fun w' => w'.cell? ⟨W.heap.size, 2, none⟩ = some (.int .i64 a.node)) (with_reducible exact b2d)
              ((go_at_call 21; refine (rnodes_any f _ (by omega) (by omega)).mono ?_; rintro e w' ⟨rfl, rfl⟩))
            go_wp2_with fail
            go_meet
            refine ⟨?_, Lib.hid (H3.out.drew)⟩
            rw [inR_yes h0]
          · have hd : decide (0 ≤ a.node) = false := by simp; omega
            go_quiet (fail)
            go_wp2_with fail
            go_meet
            refine ⟨?_, Lib.hid (H3.out.upd0 ((Upd.refl _ _).drewN _))⟩
            rw [inR_no (by omega)]
        case rest =>
          obtain ⟨rfl, H4⟩ := hcut
          clear H3 b0 b1 b2 b3 b4 b5 c0 c1 c2 c3 fz0 fz1 fz2 fz3 T3
          have T4 := Lib.hid (cpR_bat H4.out.drop.drop.drop.head)
          cases hir : inR f a.node
          · have HCV := Lib.hid (canVote_out (st := st) (f := f) (kind := a.kind) ⟨by rw [← HF.out]; exact (own_small H4.out).2.2.2.1, by rw [← HF.out]; exact (own_small H4.out).2.2.2.2⟩ hir)
            clear hir
            obtain ⟨b0, b1, b2, b3, b4, b5⟩ := act_box H4.out.drop.drop.drop.drop.blk_out
            go_wp2_with fail
            refine (own_vote H4.out a.kind a.node a.sl v2 (batchS a) T4.out (by omega)).mono ?_
            rintro e w5 ⟨rfl, -, h5⟩
            rw [voteS_no HCV.out] at h5
            rw [HCV.out]
            have H5 := Lib.hid h5
            clear h5
            go_wp2_with fail
            go_meet
            exact ⟨rfl, Lib.hid (doS_of rfl H5.out HF.out rfl)⟩
          · have HIR := Lib.hid hir
            clear hir
            go_upto_region 14 with fail
            go_cut [14] (fun p wx => ∃ vx ao3 cap3, p = .pointer (some ⟨vx, 0, none⟩) ∧ Hid (Own B w0 wx (blk vx (.cells #[.int .i64 a.node, .int .i64 a.sl, .slice ao3 (batchS a).length cap3] 113 (0, 0)) :: batR (.slice ao3 (batchS a).length cap3) (batchS a) :: slotR L st :: blk q (docO st.has vb vp vc) :: docR vb vp vc st :: cpR v2 (batchS a) :: blk W.heap.size (actO a) :: rs)))
            case first =>
              obtain ⟨b0, b1, b2, b3, b4, b5⟩ := act_box H4.out.drop.drop.drop.drop.drew.blk_out
              have HA4 := Lib.hid (act_bat H4.out.drew HB.out HA.out)
              have hltc := block_lt H4.out.drop.drop.drop.drop.blk_out
              have HAW := Lib.hid (fun o => act_bat (H4.out.alloc o).drew HB.out HA.out)
              go_region_held3 (fun w' => w'.cell? ⟨W.heap.size, 0, none⟩ = some (.int .i64 a.act) ∧ w'.cell? ⟨W.heap.size, 1, none⟩ = some (.int .i64 a.kind) ∧ w'.cell? ⟨W.heap.size, 2, none⟩ = some (.int .i64 a.node) ∧ w'.cell? ⟨W.heap.size, 3, none⟩ = some (.int .i64 a.sl) ∧ w'.cell? ⟨W.heap.size, 4, none⟩ = some (.int .i64 a.which) ∧ w'.cell? ⟨W.heap.size, 5, none⟩ = some a.b)
                (first | (with_reducible exact ⟨d0, d1, d2, d3, d4, d5⟩) | (with_reducible exact ⟨b0, b1, b2, b3, b4, b5⟩) | (with_reducible exact k6_alloc (by omega) ⟨d0, d1, d2, d3, d4, d5⟩) | (with_reducible exact k6_alloc' (by omega) ⟨b0, b1, b2, b3, b4, b5⟩) | (with_reducible exact k6_sets (by omega) ⟨d0, d1, d2, d3, d4, d5⟩))
                (first | (go_at_call 60; refine (batch_any a _ (by first | exact HA4.out | exact HAW.out _)).mono ?_; rintro e w3 ⟨v3, rfl, hb3, bat3, bl3⟩; obtain ⟨ao3, cap3, rfl⟩ := bat_form bat3; first | (have hx := new_three hb3; obtain ⟨x0, x1, x2, g0, g1, g2⟩ := hx; have H5b := Lib.hid (own_batR ((H4.out.box _).drew.to hb3) bat3 (batch_out (H4.out.box _).drew HB.out HA.out bl3)); have H5 := Lib.hid H5b.out.drop.drop; clear bat3 bl3; obtain ⟨d0, d1, d2, d3, d4, d5⟩ := act_box H5.out.drop.drop.drop.drop.blk_out; have hlt3 := block_lt H5.out.drop.drop.drop.drop.blk_out) | (have H5a := Lib.hid (own_batR (H4.out.drew.to hb3) bat3 (batch_out H4.out.drew HB.out HA.out bl3)); have H5 := Lib.hid H5a.out.drop; clear bat3 bl3; obtain ⟨d0, d1, d2, d3, d4, d5⟩ := act_box H5.out.drop.drop.drop.drop.blk_out; have hlt3 := block_lt H5.out.drop.drop.drop.drop.blk_out)))
              all_goals go_wp2_with fail
              all_goals go_meet
              all_goals refine ⟨_, ao3, cap3, rfl, Lib.hid ?_⟩
              · exact H5a.out.box _
              · exact ((H5b.out.swap.store 0 _).store 1 _).store 2 _
            case rest =>
              obtain ⟨vx, ao3, cap3, rfl, H5⟩ := hcut
              clear H4 T4
              obtain ⟨m, hme, hm⟩ := inR_nat HIR.out
              obtain ⟨-, -, -, hpl, hcl⟩ := own_small H5.out.drop.drop
              rw [HF.out] at hpl hcl
              have hxb := H5.out.blk_out
              have x0 : wc.cell? ⟨vx, 0, none⟩ = some (.int .i64 a.node) := by rw [block_cell hxb]; rfl
              have x1 : wc.cell? ⟨vx, 1, none⟩ = some (.int .i64 a.sl) := by rw [block_cell hxb]; rfl
              have x2 : wc.cell? ⟨vx, 2, none⟩ = some (.slice ao3 (batchS a).length cap3) := by rw [block_cell hxb]; rfl
              obtain ⟨b0, b1, b2, b3, b4, b5⟩ := act_box H5.out.drop.drop.drop.drop.drop.drop.blk_out
              obtain ⟨c0, c1, c2, c3, fz⟩ := doc_cells H5.out.drop.drop.drop.blk_out
              clear hxb HIR
              by_cases hk4 : a.kind = 4
              · skip
                have hkb4 : (a.kind == 4) = true := by simp [hk4]
                have H5p := Lib.hid (own_docp H5.out.drew)
                obtain ⟨pl, p1, p2, pb⟩ := docR_ps H5p.out.head
                have hln := rv_len13 p2
                have hlen : m < st.ps.length := by omega
                obtain ⟨aop, capp, hvp, -⟩ := id p1.1
                have HP1 := Lib.hid p1
                have HPB := Lib.hid pb
                clear p1 pb
                cases hh : st.ps[m].has
                · obtain ⟨i, hi, hdn, hup, hmap⟩ := ref_yes p2 hlen hh a.sl (batchS a)
                  have HCV := Lib.hid (can_yes4 (st := st) hk4 hme hlen hh)
                  have HVS := Lib.hid (vote_yes4 (st := st) hk4 hme hlen hh a.sl (batchS a))
                  have HMP := Lib.hid hmap
                  have HAD := Lib.hid (add_yes vp (.slice ao3 (batchS a).length cap3) pl a.node a.sl (batchS a) _ (by omega) HP1.out (batR_out H5p.out.drop.drop.head) (by omega) i hi (fun j hj hji => by rw [hme]; exact hdn j hj hji) (fun j hj hji => by rw [hme]; exact hup j hj hji))
                  have HME := Lib.hid hme
                  clear hdn hup hmap hh p2 hme hk4
                  subst hvp
                  go_wp2_with fail
                  refine Mix.wp_text2 (by kernel_rfl) (by kernel_rfl) ?_
                  go_wp2_with fail
                  refine HAD.out.mono ?_
                  rintro e w6 ⟨u, rfl, hb6, hr6, hn6⟩
                  have h6 := own_docp' ((H5p.out.to hb6).alter (HPB.out w6 u ⟨a.node, a.sl, .slice ao3 (batchS a).length cap3, batchS a⟩ _ (voteS st a.kind a.node a.sl (batchS a)) (Upd.of_below hb6) ((H5p.out.to hb6).all _ (List.mem_cons_of_mem _ (List.mem_cons_of_mem _ List.mem_cons_self))).1 hr6 mem_parts
                    (by rw [HVS.out, HME.out]; exact HMP.out _) (by rw [HVS.out]) (by rw [HVS.out]; rfl) (fun k hk => H5p.out.fresh (hn6 k hk).1)) (fun _ hk => hk))
                  have H6 := Lib.hid h6.drop.drop
                  obtain ⟨aou, nu, capu, hu⟩ := rvs_form hr6
                  subst hu
                  clear hb6 hn6 h6 hr6
                  obtain ⟨c0, c1, c2, c3, fz⟩ := doc_cells H6.out.drop.blk_out
                  have fz2 := fz 2
                  clear fz
                  go_wp2_with fail
                  refine ⟨by rfl, ?_⟩
                  have H7 := Lib.hid ((H6.out.swap.store 2 (.slice aou nu capu)).swap)
                  generalize w6.setCell ⟨q, 2, none⟩ (.slice aou nu capu) = w7 at *
                  have T7 := Lib.hid (cpR_bat H7.out.drop.drop.drop.head)
                  obtain ⟨b0, b1, b2, b3, b4, b5⟩ := act_box H7.out.drop.drop.drop.drop.blk_out
                  clear c0 c1 c2 c3 H6 fz2
                  go_wp2_with fail
                  refine (own_vote H7.out a.kind a.node a.sl v2 (batchS a) T7.out (by omega)).mono ?_
                  rintro e w8 ⟨rfl, -, h8⟩
                  rw [HCV.out]
                  have H8 := Lib.hid h8
                  clear h8
                  go_wp2_with fail
                  go_meet
                  exact ⟨rfl, Lib.hid (doS_of (by rw [HVS.out]) H8.out HF.out rfl)⟩
                · obtain ⟨i, hi, hn, hup⟩ := ref_no p2 hlen hh
                  have HCV := Lib.hid (can_no4 (st := st) hk4 hme hlen hh)
                  have HAD := Lib.hid (add_no vp (.slice ao3 (batchS a).length cap3) pl a.node a.sl (batchS a) _ (by omega) HP1.out (batR_out H5p.out.drop.drop.head) i hi (by rw [hn, hme]) (fun j hj hij => by rw [hme]; exact hup j hj hij))
                  clear hn hup hh p2 hme hk4
                  subst hvp
                  go_wp2_with fail
                  refine Mix.wp_text2 (by kernel_rfl) (by kernel_rfl) ?_
                  go_wp2_with fail
                  refine HAD.out.mono ?_
                  rintro e w6 ⟨rfl, hb6⟩
                  have H6 := Lib.hid (H5.out.drew.to hb6).drop.drop
                  clear hb6
                  obtain ⟨c0, c1, c2, c3, fz⟩ := doc_cells H6.out.drop.blk_out
                  have fz2 := fz 2
                  clear fz
                  go_wp2_with fail
                  refine ⟨by rfl, ?_⟩
                  have H7 := Lib.hid ((H6.out.swap.store 2 (.slice aop pl.length capp)).swap)
                  generalize w6.setCell ⟨q, 2, none⟩ (.slice aop pl.length capp) = w7 at *
                  have T7 := Lib.hid (cpR_bat H7.out.drop.drop.drop.head)
                  obtain ⟨b0, b1, b2, b3, b4, b5⟩ := act_box H7.out.drop.drop.drop.drop.blk_out
                  clear c0 c1 c2 c3 H6 fz2
                  go_wp2_with fail
                  refine (own_vote H7.out a.kind a.node a.sl v2 (batchS a) T7.out (by omega)).mono ?_
                  rintro e w8 ⟨rfl, -, h8⟩
                  rw [voteS_no HCV.out] at h8
                  rw [HCV.out]
                  have H8 := Lib.hid h8
                  clear h8
                  go_wp2_with fail
                  go_meet
                  exact ⟨rfl, Lib.hid (doS_of rfl H8.out HF.out rfl)⟩
              by_cases hk5 : a.kind = 5
              · skip
                have hkb4 : (a.kind == 4) = false := by simp [hk4]
                have hkb5 : (a.kind == 5) = true := by simp [hk5]
                have H5p := Lib.hid (own_docp H5.out.drew)
                obtain ⟨pl, p1, p2, pb⟩ := docR_cs H5p.out.head
                have hln := rv_len13 p2
                have hlen : m < st.cs.length := by omega
                obtain ⟨aop, capp, hvp, -⟩ := id p1.1
                have HP1 := Lib.hid p1
                have HPB := Lib.hid pb
                clear p1 pb
                cases hh : st.cs[m].has
                · obtain ⟨i, hi, hdn, hup, hmap⟩ := ref_yes p2 hlen hh a.sl (batchS a)
                  have HCV := Lib.hid (can_yes5 (st := st) hk5 hme hlen hh)
                  have HVS := Lib.hid (vote_yes5 (st := st) hk5 hme hlen hh a.sl (batchS a))
                  have HMP := Lib.hid hmap
                  have HAD := Lib.hid (add_yes vc (.slice ao3 (batchS a).length cap3) pl a.node a.sl (batchS a) _ (by omega) HP1.out (batR_out H5p.out.drop.drop.head) (by omega) i hi (fun j hj hji => by rw [hme]; exact hdn j hj hji) (fun j hj hji => by rw [hme]; exact hup j hj hji))
                  have HME := Lib.hid hme
                  clear hdn hup hmap hh p2 hme hk5
                  subst hvp
                  go_wp2_with fail
                  refine Mix.wp_text2 (by kernel_rfl) (by kernel_rfl) ?_
                  go_wp2_with fail
                  refine HAD.out.mono ?_
                  rintro e w6 ⟨u, rfl, hb6, hr6, hn6⟩
                  have h6 := own_docp' ((H5p.out.to hb6).alter (HPB.out w6 u ⟨a.node, a.sl, .slice ao3 (batchS a).length cap3, batchS a⟩ _ (voteS st a.kind a.node a.sl (batchS a)) (Upd.of_below hb6) ((H5p.out.to hb6).all _ (List.mem_cons_of_mem _ (List.mem_cons_of_mem _ List.mem_cons_self))).1 hr6 mem_parts
                    (by rw [HVS.out, HME.out]; exact HMP.out _) (by rw [HVS.out]) (by rw [HVS.out]; rfl) (fun k hk => H5p.out.fresh (hn6 k hk).1)) (fun _ hk => hk))
                  have H6 := Lib.hid h6.drop.drop
                  obtain ⟨aou, nu, capu, hu⟩ := rvs_form hr6
                  subst hu
                  clear hb6 hn6 h6 hr6
                  obtain ⟨c0, c1, c2, c3, fz⟩ := doc_cells H6.out.drop.blk_out
                  have fz3 := fz 3
                  clear fz
                  go_wp2_with fail
                  refine ⟨by rfl, ?_⟩
                  have H7 := Lib.hid ((H6.out.swap.store 3 (.slice aou nu capu)).swap)
                  generalize w6.setCell ⟨q, 3, none⟩ (.slice aou nu capu) = w7 at *
                  have T7 := Lib.hid (cpR_bat H7.out.drop.drop.drop.head)
                  obtain ⟨b0, b1, b2, b3, b4, b5⟩ := act_box H7.out.drop.drop.drop.drop.blk_out
                  clear c0 c1 c2 c3 H6 fz3
                  go_wp2_with fail
                  refine (own_vote H7.out a.kind a.node a.sl v2 (batchS a) T7.out (by omega)).mono ?_
                  rintro e w8 ⟨rfl, -, h8⟩
                  rw [HCV.out]
                  have H8 := Lib.hid h8
                  clear h8
                  go_wp2_with fail
                  go_meet
                  exact ⟨rfl, Lib.hid (doS_of (by rw [HVS.out]) H8.out HF.out rfl)⟩
                · obtain ⟨i, hi, hn, hup⟩ := ref_no p2 hlen hh
                  have HCV := Lib.hid (can_no5 (st := st) hk5 hme hlen hh)
                  have HAD := Lib.hid (add_no vc (.slice ao3 (batchS a).length cap3) pl a.node a.sl (batchS a) _ (by omega) HP1.out (batR_out H5p.out.drop.drop.head) i hi (by rw [hn, hme]) (fun j hj hij => by rw [hme]; exact hup j hj hij))
                  clear hn hup hh p2 hme hk5
                  subst hvp
                  go_wp2_with fail
                  refine Mix.wp_text2 (by kernel_rfl) (by kernel_rfl) ?_
                  go_wp2_with fail
                  refine HAD.out.mono ?_
                  rintro e w6 ⟨rfl, hb6⟩
                  have H6 := Lib.hid (H5.out.drew.to hb6).drop.drop
                  clear hb6
                  obtain ⟨c0, c1, c2, c3, fz⟩ := doc_cells H6.out.drop.blk_out
                  have fz3 := fz 3
                  clear fz
                  go_wp2_with fail
                  refine ⟨by rfl, ?_⟩
                  have H7 := Lib.hid ((H6.out.swap.store 3 (.slice aop pl.length capp)).swap)
                  generalize w6.setCell ⟨q, 3, none⟩ (.slice aop pl.length capp) = w7 at *
                  have T7 := Lib.hid (cpR_bat H7.out.drop.drop.drop.head)
                  obtain ⟨b0, b1, b2, b3, b4, b5⟩ := act_box H7.out.drop.drop.drop.drop.blk_out
                  clear c0 c1 c2 c3 H6 fz3
                  go_wp2_with fail
                  refine (own_vote H7.out a.kind a.node a.sl v2 (batchS a) T7.out (by omega)).mono ?_
                  rintro e w8 ⟨rfl, -, h8⟩
                  rw [voteS_no HCV.out] at h8
                  rw [HCV.out]
                  have H8 := Lib.hid h8
                  clear h8
                  go_wp2_with fail
                  go_meet
                  exact ⟨rfl, Lib.hid (doS_of rfl H8.out HF.out rfl)⟩
              have hkb4 : (a.kind == 4) = false := by simp [hk4]
              have hkb5 : (a.kind == 5) = false := by simp [hk5]
              have HCV := Lib.hid (can_other (st := st) (node := a.node) hk4 hk5)
              have H7 := Lib.hid H5.out.drop.drop
              have T7 := Lib.hid (cpR_bat H7.out.drop.drop.drop.head)
              clear hme c0 c1 c2 c3 fz x0 x1 x2 hk4 hk5
              go_wp2_with fail
              refine (own_vote H7.out a.kind a.node a.sl v2 (batchS a) T7.out (by omega)).mono ?_
              rintro e w8 ⟨rfl, -, h8⟩
              rw [voteS_no HCV.out] at h8
              rw [HCV.out]
              have H8 := Lib.hid h8
              clear h8
              go_wp2_with fail
              go_meet
              exact ⟨rfl, Lib.hid (doS_of rfl H8.out HF.out rfl)⟩
      · have hk9b : decide (k < 9) = false := by simp; omega
        clear hk0 hk9 k1 k2 T3 b0 b1 b2 b3 b4 b5
        go_wp2_with fail
        have H5 := Lib.hid (own_doc0 L.f ((((((H3.out.swap.store 0 (.bool false)).store 1 (.slice none 0 0)).store 2 (.slice none 0 0)).store 3 (.slice none 0 0)).swap)))
        clear H3 c0 c1 c2 c3 fz0 fz1 fz2 fz3
        refine (own_reset H5.out).mono ?_
        rintro e w4 ⟨L', rfl, hf', hs', -, h4⟩
        have HS' := Lib.hid hs'
        clear hs'
        have H4 := Lib.hid h4
        have HF' := Lib.hid (hf'.trans HF.out)
        clear h4 H5 hf'
        go_wp2_with fail
        go_meet
        exact ⟨rfl, Lib.hid (doS_of (L := L') (st := emptySl L.f) rfl H4.out HF'.out HS'.out)⟩
  case rest =>
    obtain ⟨rfl, HD⟩ := hcut
    clear H3 b0 b1 b2 b3 b4 b5
    obtain ⟨L1, st1, vb1, vp1, vc1, hf', hs', h1⟩ := HD.out
    have hrow := row_form h1.drop.drop.drop.head
    obtain ⟨ao2, cap2, rfl⟩ := hrow
    have HF1 := Lib.hid hf'
    have HS1 := Lib.hid hs'
    clear hs'
    have H1 := Lib.hid h1
    clear hf' h1 HD H
    go_wp2_with fail
    go_loopw [112] (fun i wr => ∃ k : Nat, k ≤ (batchS a).length ∧ i = .int .i64 k ∧ Hid (Own B w0 wr (slotR L1 st1 :: blk q (docO st1.has vb1 vp1 vc1) :: docR vb1 vp1 vc1 st1 :: rowR 32 6 (.slice ao2 (batchS a).length cap2) (batchS a).length :: rs))) (fun i _ => (batchS a).length - (intOf i).toNat)
    case atStart => exact ⟨0, by omega, rfl, H1⟩
    case round =>
      obtain ⟨k, hk, rfl, H2⟩ := hrel
      by_cases hlt : k < (batchS a).length
      · have hkI : (k : Int) < ((batchS a).length : Int) := by omega
        obtain ⟨g, cur, rfl, hg, hsz, hcap⟩ := row_at H2.out.drop.drop.drop.head hlt
        have fz := fun o => block_frozen hg o
        have hc := row_cells hg hsz
        obtain ⟨x0, c0⟩ := hc (k * 6) (by omega)
        obtain ⟨x1, c1⟩ := hc (k * 6 + 1) (by omega)
        obtain ⟨x2, c2⟩ := hc (k * 6 + 2) (by omega)
        obtain ⟨x3, c3⟩ := hc (k * 6 + 3) (by omega)
        obtain ⟨x4, c4⟩ := hc (k * 6 + 4) (by omega)
        obtain ⟨x5, c5⟩ := hc (k * 6 + 5) (by omega)
        clear hc hg
        go_wp2_with fail
        go_roundw
        case rel =>
          refine ⟨k + 1, by omega, by go_num, Lib.hid (Own.perm3 (Own.step H2.out.perm3' (r' := rowR 32 6 (.slice (some ⟨g, 0, none⟩) (batchS a).length cap2) (batchS a).length) ((((((((Upd.refl _ _).setCell (.inl (by simp [rowR, blkOf])) _).setCell (.inl (by simp [rowR, blkOf])) _).setCell (.inl (by simp [rowR, blkOf])) _).setCell (.inl (by simp [rowR, blkOf])) _).setCell (.inl (by simp [rowR, blkOf])) _).setCell (.inl (by simp [rowR, blkOf])) _)) (row_set (row_set (row_set (row_set (row_set (row_set H2.out.perm3'.head _ _) _ _) _ _) _ _) _ _) _ _) (fun _ hk => .inl hk)))⟩
        case measure => simp [intOf]; omega
      · have hkI : ¬ (k : Int) < ((batchS a).length : Int) := by omega
        go_wp2_with fail
        have HR := Lib.hid (own_right (H2.out.perm3'.drop) (by rw [HF1.out]; exact hf1) (by rw [HF1.out]; exact hf2))
        rw [HF1.out] at HR
        have hp : L.ptr = L1.ptr := by simp [Loc.ptr, HS1.out]
        rw [hp]
        clear hp
        refine HR.out.mono ?_
        rintro e w' ⟨rfl, hu⟩
        have H3 := Lib.hid (H2.out.perm3'.drop.upd0 hu)
        clear hu
        go_wp2_with fail
        go_ret
        exact ⟨rfl, L1, st1, vb1, vp1, vc1, HF1.out, HS1.out, H3.out⟩

end Go.Proofs.Ytdeadekeffficaa

/- The document's instance in memory: its block, what it leads to. -/
namespace Go.Proofs.Ytdeadekeffficaa
open Go.RowKit Go.Heap

/-! ### The block's cells: five of its own, and of each place seventeen, in six rows -/

def docCell (h : Nat → Value) (m : Nat → Nat → Value) (j : Nat) : Value :=
  if j < 5 then h j else if j < 73 then m ((j - 5) / 4) ((j - 5) % 4) else if j < 90 then m (j - 73) 4 else if j < 175 then m ((j - 90) / 5) (5 + (j - 90) % 5) else if j < 260 then m ((j - 175) / 5) (10 + (j - 175) % 5)
  else if j < 277 then m (j - 260) 15 else m (j - 277) 16
def rowJ (j : Nat) : Nat := if j < 73 then (j - 5) / 4 else if j < 90 then j - 73 else if j < 175 then (j - 90) / 5 else if j < 260 then (j - 175) / 5 else if j < 277 then j - 260 else j - 277
def colJ (j : Nat) : Nat := if j < 73 then (j - 5) % 4 else if j < 90 then 4 else if j < 175 then 5 + (j - 90) % 5 else if j < 260 then 10 + (j - 175) % 5 else if j < 277 then 15 else 16
def offD (k q : Nat) : Nat := if q < 4 then 5 + k * 4 + q else if q < 5 then 73 + k else if q < 10 then 90 + k * 5 + (q - 5) else if q < 15 then 175 + k * 5 + (q - 10) else if q < 16 then 260 + k else 277 + k
def setM (m : Nat → Nat → Value) (k q : Nat) (v : Value) : Nat → Nat → Value := fun i j => if i = k ∧ j = q then v else m i j
def setH (h : Nat → Value) (k : Nat) (v : Value) : Nat → Value := fun i => if i = k then v else h i

section
variable {h : Nat → Value} {m : Nat → Nat → Value} {k q j : Nat} {v : Value}

theorem docCell_head (hj : j < 5) : docCell h m j = h j := by unfold docCell; rw [if_pos hj]
theorem docCell_row (hj : 5 ≤ j) : docCell h m j = m (rowJ j) (colJ j) := by
  unfold docCell rowJ colJ
  rw [if_neg (by omega)]
  repeat' split
  all_goals first | rfl | omega
theorem offD_iff (hk : k < 17) (hq : q < 17) (hj : 5 ≤ j) (hj2 : j < 294) : j = offD k q ↔ (rowJ j = k ∧ colJ j = q) := by
  unfold offD rowJ colJ
  repeat' split
  all_goals omega
theorem offD_lt (hk : k < 17) (hq : q < 17) : 5 ≤ offD k q ∧ offD k q < 294 := by
  unfold offD
  repeat' split
  all_goals omega
theorem docCell_get (hk : k < 17) (hq : q < 17) : docCell h m (offD k q) = m k q := by
  obtain ⟨h1, h2⟩ := offD_lt hk hq
  rw [docCell_row h1]
  obtain ⟨e1, e2⟩ := (offD_iff hk hq h1 h2).1 rfl
  rw [e1, e2]
theorem docCell_set (hk : k < 17) (hq : q < 17) (hj : j < 294) : docCell h (setM m k q v) j = if offD k q = j then v else docCell h m j := by
  by_cases h5 : j < 5
  · have := offD_lt hk hq
    rw [docCell_head h5, docCell_head h5, if_neg (by omega)]
  · rw [docCell_row (by omega), docCell_row (by omega)]
    by_cases e : j = offD k q
    · rw [if_pos e.symm, setM, if_pos ((offD_iff hk hq (by omega) hj).1 e)]
    · rw [if_neg (fun h => e h.symm), setM, if_neg (fun hn => e ((offD_iff hk hq (by omega) hj).2 hn))]
theorem docCell_setH (hk : k < 5) : docCell (setH h k v) m j = if k = j then v else docCell h m j := by
  by_cases h5 : j < 5
  · rw [docCell_head h5, docCell_head h5, setH]
    by_cases e : j = k
    · rw [if_pos e, if_pos e.symm]
    · rw [if_neg e, if_neg (fun h => e h.symm)]
  · rw [docCell_row (by omega), docCell_row (by omega), if_neg (by omega)]

theorem setM_same : setM m k q v k q = v := by simp [setM]
theorem setM_row {i : Nat} (hi : i ≠ k) : setM m k q v i = m i := by funext c; simp [setM, hi]
theorem setM_col {c : Nat} (hc : c ≠ q) (i : Nat) : setM m k q v i c = m i c := by simp [setM, hc]
theorem setH_same : setH h k v k = v := by simp [setH]
theorem setH_ne {i : Nat} (hi : i ≠ k) : setH h k v i = h i := by simp [setH, hi]
end

/-- The block. -/
def docB (p : Nat) (h : Nat → Value) (m : Nat → Nat → Value) : Res where
  M := [p]
  Q := fun w D => (∃ cur, w.heap[p]? = some (.cells cur 95 (0, 0)) ∧ cur.size = 294 ∧ ∀ j, j < 294 → cur[j]? = some (docCell h m j)) ∧ D = []
  dep := fun ⟨⟨cur, h1, h2⟩, e⟩ hk _ => ⟨⟨cur, (hk _ (by simp)).trans h1, h2⟩, e⟩
  lt := fun ⟨⟨cur, h1, h2⟩, e⟩ k hk => by subst e; simp at hk; subst hk; exact block_lt h1
  sep := fun ⟨_, e⟩ k _ hn => by rw [e] at hn; simp at hn

section
variable {B : Nat} {w0 w W W' : World} {rs ss : List Res} {A : List Nat} {p : Nat} {h : Nat → Value} {m : Nat → Nat → Value}

theorem docB_at (hr : (docB p h m).At w A) : p < w.heap.size ∧ (∀ k, k < 5 → w.cell? ⟨p, k, none⟩ = some (h k)) ∧ (∀ k q, k < 17 → q < 17 → w.cell? ⟨p, offD k q, none⟩ = some (m k q)) ∧ ∀ o, w.frozen? ⟨p, o, none⟩ = false := by
  obtain ⟨D, ⟨⟨cur, h1, h2, h3⟩, -⟩, -, -⟩ := hr
  refine ⟨block_lt h1, fun k hk => by rw [block_cell h1, h3 k (by omega), docCell_head hk], fun k q hk hq => ?_, block_frozen h1⟩
  rw [block_cell h1, h3 _ (offD_lt hk hq).2, docCell_get hk hq]

theorem docB_cell (hr : (docB p h m).At w A) (j : Nat) (hj : j < 294) : w.cell? ⟨p, j, none⟩ = some (docCell h m j) := by
  obtain ⟨D, ⟨⟨cur, h1, h2, h3⟩, -⟩, -, -⟩ := hr
  rw [block_cell h1, h3 j hj]

theorem docB_step (hw : Own B w0 W (docB p h m :: rs)) (i : Nat) (v : Value) (h' : Nat → Value) (m' : Nat → Nat → Value) (hs : ∀ j, j < 294 → docCell h' m' j = if i = j then v else docCell h m j) : Own B w0 (W.setCell ⟨p, i, none⟩ v) (docB p h' m' :: rs) := by
  have hu : Upd [p] W (W.setCell ⟨p, i, none⟩ v) := (Upd.refl _ _).setCell (.inl (by simp)) v
  obtain ⟨D, ⟨⟨cur, h1, h2, h3⟩, rfl⟩, h4, h5⟩ := hw.head
  refine hw.step (r' := docB p h' m') hu ⟨[], ⟨⟨cur.setIfInBounds i v, by rw [hp_same rfl, h1]; rfl, by simpa using h2, fun j hj => ?_⟩, rfl⟩, by simp, fun k hk => by rw [hs_set]; exact h5 k hk⟩ (fun k hk => .inl hk)
  rw [hs j hj]
  by_cases hij : i = j
  · subst hij
    rw [Array.getElem?_setIfInBounds_self, if_pos (by omega), if_pos rfl]
  · rw [Array.getElem?_setIfInBounds_ne hij, if_neg hij]
    exact h3 j hj

theorem docB_put (hw : Own B w0 W (docB p h m :: rs)) (k q : Nat) (hk : k < 17) (hq : q < 17) (v : Value) : Own B w0 (W.setCell ⟨p, offD k q, none⟩ v) (docB p h (setM m k q v) :: rs) :=
  docB_step hw _ v _ _ (fun _ hj => docCell_set hk hq hj)
theorem docB_puth (hw : Own B w0 W (docB p h m :: rs)) (k : Nat) (hk : k < 5) (v : Value) : Own B w0 (W.setCell ⟨p, k, none⟩ v) (docB p (setH h k v) m :: rs) :=
  docB_step hw _ v _ _ (fun _ _ => docCell_setH hk)

/-- What is only read may be told otherwise. -/
theorem own_tell {P P2 : World → List Nat → Prop} {d1 d2} (hw : Own B w0 W (imm P d1 :: rs)) (ht : ∀ D, P W D → P2 W D) : Own B w0 W (imm P2 d2 :: rs) := by
  obtain ⟨D, ⟨h1, h2⟩, h3, h4⟩ := hw.head
  exact hw.alter (r' := imm P2 d2) ⟨D, ⟨ht D h1, h2⟩, h3, fun k hk => h4 k hk⟩ (fun _ hk => hk)
theorem own_join {P P1 P2 : World → List Nat → Prop} {d d1 d2} (hw : Own B w0 W (imm P d :: imm P1 d1 :: rs)) (ht : ∀ D D1, P W D → P1 W D1 → P2 W (D ++ D1)) : Own B w0 W (imm P2 d2 :: rs) := by
  obtain ⟨D, ⟨h1, h2⟩, h3, h4⟩ := hw.head
  obtain ⟨D1, ⟨k1, k2⟩, k3, k4⟩ := (hw.all _ (List.mem_cons_of_mem _ List.mem_cons_self)).1
  have hw2 := hw.swap.drop
  have hM : ∀ k, k ∈ Ms (imm P d :: rs) → k ∈ Ms (imm P d :: imm P1 d1 :: rs) := fun k hk => by
    rcases (Ms_cons _ _ _).1 hk with hk | hk
    · exact (Ms_cons _ _ _).2 (.inl hk)
    · exact (Ms_cons _ _ _).2 (.inr ((Ms_cons _ _ _).2 (.inr hk)))
  refine hw2.alter (r' := imm P2 d2) ⟨D ++ D1, ⟨ht D D1 h1 k1, fun k hk => ?_⟩, fun k hk hn => ?_, fun k hk => h4 k (hM k hk)⟩ (fun _ hk => hk)
  · rcases List.mem_append.1 hk with hk | hk
    · exact h2 k hk
    · exact k2 k hk
  · rcases List.mem_append.1 hk with hk | hk
    · exact h3 k hk (hM k hn)
    · exact k3 k hk (hM k hn)

end

/-! ### What it leads to -/

/-- A certificate in five values. -/
def CtV (w : World) (r : Nat → Value) (a : Nat) (c : Cp) (D : List Nat) : Prop := ∃ t : Ct, t.cp = c ∧ CtIn w t D ∧ r a = .int .i64 t.view ∧ r (a + 1) = .int .i64 t.inst ∧ r (a + 2) = .int .i64 t.seq ∧ r (a + 3) = t.vb ∧ r (a + 4) = t.vv

theorem CtV.dep {w w' : World} {r : Nat → Value} {a : Nat} {c : Cp} {D : List Nat} (h : CtV w r a c D) (hk : ∀ k ∈ D, w'.heap[k]? = w.heap[k]?) (hs : w.heap.size ≤ w'.heap.size) : CtV w' r a c D := let ⟨t, h1, h2, h3⟩ := h; ⟨t, h1, h2.dep hk hs, h3⟩
theorem CtV.mono {w : World} {r : Nat → Value} {a : Nat} {c : Cp} {D D' : List Nat} (h : CtV w r a c D) (hs : ∀ k ∈ D, k ∈ D') : CtV w r a c D' := let ⟨t, h1, h2, h3⟩ := h; ⟨t, h1, h2.mono hs, h3⟩
theorem CtV.congr {w : World} {r r' : Nat → Value} {a : Nat} {c : Cp} {D : List Nat} (h : CtV w r a c D) (he : ∀ i, a ≤ i → i ≤ a + 4 → r' i = r i) : CtV w r' a c D :=
  let ⟨t, h1, h2, h3, h4, h5, h6, h7⟩ := h
  ⟨t, h1, h2, by rw [he _ (by omega) (by omega), h3], by rw [he _ (by omega) (by omega), h4], by rw [he _ (by omega) (by omega), h5], by rw [he _ (by omega) (by omega), h6], by rw [he _ (by omega) (by omega), h7]⟩

theorem DocIn.mono {w : World} {vb vp vc : Value} {st : Sl} {D D' : List Nat} (h : DocIn w vb vp vc st D) (hs : ∀ k ∈ D, k ∈ D') : DocIn w vb vp vc st D' := by
  obtain ⟨pl, p1, p2⟩ := h.p
  obtain ⟨cl, c1, c2⟩ := h.c
  exact ⟨ReadsIn.mono h.b hs, ⟨pl, p1.mono hs, p2⟩, cl, c1.mono hs, c2⟩

/-- A place of the document's instance. -/
structure DPl (w : World) (f : Nat) (r : Nat → Value) (p : Pl) (D : List Nat) : Prop where
  has : r 0 = .bool p.sl.has
  dc : DocIn w (r 1) (r 2) (r 3) p.sl D
  told : r 4 = .bool p.told
  ct : CtV w r 5 p.ct D
  dw : CtV w r 10 p.dw D
  hc : r 15 = .bool p.has
  hd : r 16 = .bool p.done
  n : (chosenS p.sl).length ≤ 100000
  pl : p.sl.ps.length = 3 * f + 1
  cl : p.sl.cs.length = 3 * f + 1

theorem DPl.dep {w w' : World} {f : Nat} {r : Nat → Value} {p : Pl} {D : List Nat} (h : DPl w f r p D) (hk : ∀ k ∈ D, w'.heap[k]? = w.heap[k]?) (hs : w.heap.size ≤ w'.heap.size) : DPl w' f r p D :=
  { h with dc := h.dc.dep hk hs, ct := h.ct.dep hk hs, dw := h.dw.dep hk hs }
theorem DPl.mono {w : World} {f : Nat} {r : Nat → Value} {p : Pl} {D D' : List Nat} (h : DPl w f r p D) (hs : ∀ k ∈ D, k ∈ D') : DPl w f r p D' :=
  { h with dc := h.dc.mono hs, ct := h.ct.mono hs, dw := h.dw.mono hs }

structure DocI (w : World) (h : Nat → Value) (m : Nat → Nat → Value) (st : In) (D : List Nat) : Prop where
  n : st.l.length = 16
  f1 : 1 ≤ st.f
  f2 : st.f ≤ 4
  h0 : h 0 = .int .i64 st.f
  h1 : h 1 = .int .i64 st.num
  h2 : h 2 = .int .i64 st.ahead
  h3 : h 3 = .int .i64 st.view
  h4 : h 4 = .bool st.on
  a1 : 1 ≤ st.ahead
  a2 : st.ahead ≤ 16
  vw : 0 ≤ st.view ∧ st.view ≤ 12
  off : st.on = false → ∀ p ∈ st.l, p.sl = emptySl st.f
  z : ∀ q, (m 0 q).oneCell' = true
  pl : ∀ k (hk : k < st.l.length), DPl w st.f (m (k + 1)) st.l[k] D

theorem DocI.dep {w w' : World} {h : Nat → Value} {m : Nat → Nat → Value} {st : In} {D : List Nat} (hd : DocI w h m st D) (hk : ∀ k ∈ D, w'.heap[k]? = w.heap[k]?) (hs : w.heap.size ≤ w'.heap.size) : DocI w' h m st D :=
  { hd with pl := fun k hkl => (hd.pl k hkl).dep hk hs }

def docI (h : Nat → Value) (m : Nat → Nat → Value) (st : In) : Res := imm (fun w D => DocI w h m st D) (fun hd hk hs => hd.dep hk hs)

/-- The document's instance in the state st at block p. -/
def AtD (B : Nat) (w0 w : World) (p : Nat) (st : In) (ss : List Res) : Prop := ∃ h m, Own B w0 w (docB p h m :: docI h m st :: ss)

section
variable {B : Nat} {w0 W W' : World} {ss rs : List Res} {p : Nat} {st : In}

theorem AtD.upd0 (h : AtD B w0 W p st ss) (hu : Upd [] W W') : AtD B w0 W' p st ss := let ⟨a, b, h3⟩ := h; ⟨a, b, h3.upd0 hu⟩
theorem AtD.alloc (h : AtD B w0 W p st ss) (o : Obj) : AtD B w0 (W.alloc o) p st ss := h.upd0 ((Upd.refl _ _).alloc o)
theorem AtD.drew (h : AtD B w0 W p st ss) : AtD B w0 W.drew p st ss := h.upd0 (Upd.refl _ _).drew
theorem AtD.below (h : AtD B w0 W p st ss) : Below B w0 W := let ⟨_, _, h3⟩ := h; h3.below
theorem AtD.ss_own (h : AtD B w0 W p st ss) : Own B w0 W ss := let ⟨_, _, h3⟩ := h; h3.drop.drop
theorem ad_box (h : AtD B w0 W p st ss) (o : Obj) : AtD B w0 (W.alloc o) p st (blk W.heap.size o :: ss) := let ⟨a, b, h3⟩ := h; ⟨a, b, (h3.box o).perm (List.Perm.trans (List.Perm.swap _ _ _) (List.Perm.cons _ (List.Perm.swap _ _ _)))⟩
theorem ad_perm {ss' : List Res} (h : AtD B w0 W p st ss) (hp : ss.Perm ss') : AtD B w0 W p st ss' := let ⟨a, b, h3⟩ := h; ⟨a, b, h3.perm ((hp.cons _).cons _)⟩
theorem ad_drop {r : Res} (h : AtD B w0 W p st (r :: ss)) : AtD B w0 W p st ss := let ⟨a, b, h3⟩ := h; ⟨a, b, h3.rot.drop⟩
theorem ad_docI (h : AtD B w0 W p st ss) : ∃ h' m D, Own B w0 W (docB p h' m :: docI h' m st :: ss) ∧ DocI W h' m st D := let ⟨a, b, h3⟩ := h; let ⟨D, ⟨h1, _⟩, _⟩ := h3.drop.head; ⟨a, b, D, h3, h1⟩

end
end Go.Proofs.Ytdeadekeffficaa

/- The document's instance: Range, Reach. -/
namespace Go.Proofs.Ytdeadekeffficaa
open Go.RowKit Go.Heap

set_option maxHeartbeats 400000 in
theorem drange_any (seq : Int) (w : World) : Calls Try.prog 82 #[.int .i64 seq] w fun e w' => e = .returned (.bool (idx seq).isSome) ∧ w = w' := by
  by_cases h1 : 1 ≤ seq
  · by_cases h2 : seq ≤ 16
    · have hb1 : decide (1 ≤ seq) = true := by simp [h1]
      have hb2 : decide (seq ≤ 16) = true := by simp [h2]
      have HE := Lib.hid (show (idx seq).isSome = true by rw [idx_of h1 h2]; rfl)
      go_enter Try.func82, Try.ntmps82
      go_wp2_with fail
      go_ret
      rw [HE.out]
      exact ⟨rfl, rfl⟩
    · have hb1 : decide (1 ≤ seq) = true := by simp [h1]
      have hb2 : decide (seq ≤ 16) = false := by simp; omega
      have HE := Lib.hid (show (idx seq).isSome = false by unfold idx; rw [if_neg (by omega)]; rfl)
      go_enter Try.func82, Try.ntmps82
      go_wp2_with fail
      go_ret
      rw [HE.out]
      exact ⟨rfl, rfl⟩
  · have hb1 : decide (1 ≤ seq) = false := by simp; omega
    have HE := Lib.hid (show (idx seq).isSome = false by unfold idx; rw [if_neg (by omega)]; rfl)
    go_enter Try.func82, Try.ntmps82
    go_wp2_with fail
    go_ret
    rw [HE.out]
    exact ⟨rfl, rfl⟩

section
variable {B : Nat} {w0 W W' : World} {ss rs : List Res} {p : Nat} {st : In} {h : Nat → Value} {m : Nat → Nat → Value} {D : List Nat} {A : List Nat}

theorem db_done (hb : (docB p h m).At W A) (hd : DocI W h m st D) (k : Nat) (hk : k < st.l.length) : W.cell? ⟨p, 277 + (k + 1), none⟩ = some (.bool st.l[k].done) := by
  have hn := hd.n
  have := (docB_at hb).2.2.1 (k + 1) 16 (by omega) (by omega)
  rwa [(hd.pl k hk).hd] at this

set_option maxHeartbeats 400000 in
theorem ad_reach (h : AtD B w0 W p st ss) : Calls Try.prog 78 #[.pointer (some ⟨p, 0, none⟩)] W fun e w' => e = .returned (.int .i64 (doneI st)) ∧ W = w' := by
  obtain ⟨h', m, D, h3, hd⟩ := ad_docI h
  have hb := h3.head
  have HN := Lib.hid hd.n
  have HC := Lib.hid (fun k hk => db_done hb hd k hk)
  have HD := Lib.hid (fun n h1 h2 h3 => take_while st.l n h1 h2 h3)
  have hlt := (docB_at hb).1
  clear h h3 hd hb
  go_enter Try.func78, Try.ntmps78
  go_wp2_with fail
  go_loop [3] (fun n => ∃ k : Nat, k ≤ 16 ∧ n = .int .i64 k ∧ Hid (∀ j (hj : j < st.l.length), j < k → st.l[j].done = true)) (fun n => 16 - (intOf n).toNat)
  case atStart => exact ⟨0, by omega, rfl, Lib.hid (by intro j _ hj; omega)⟩
  case round =>
    obtain ⟨k, hk, rfl, HA⟩ := hrel
    by_cases hlt16 : k < 16
    · have hkI : (k : Int) < 16 := by omega
      have hkl : k < st.l.length := by rw [HN.out]; exact hlt16
      have cd := HC.out k hkl
      cases hdn : st.l[k].done
      · rw [hdn] at cd
        have HDK := Lib.hid hdn
        clear hdn
        go_wp2_with fail
        go_ret
        refine ⟨ret_int ?_, rfl⟩
        rw [show doneI st = k from HD.out k (fun j hj hjk => HA.out j hj hjk) (by omega) (fun hj => HDK.out)]
      · rw [hdn] at cd
        have HDK := Lib.hid hdn
        clear hdn
        go_wp2_with fail
        go_round
        case rel =>
          refine ⟨k + 1, by omega, by go_num, Lib.hid (fun j hj hjk => ?_)⟩
          by_cases e : j = k
          · subst e; exact HDK.out
          · exact HA.out j hj (by omega)
        case measure => simp [intOf]; omega
    · have hk16 : k = 16 := by omega
      subst hk16
      go_wp2_with fail
      go_ret
      refine ⟨ret_int ?_, rfl⟩
      rw [show doneI st = 16 from HD.out 16 (fun j hj hjk => HA.out j hj hjk) (by rw [HN.out]; omega) (fun hj => by rw [HN.out] at hj; omega)]
      rfl

end
end Go.Proofs.Ytdeadekeffficaa
