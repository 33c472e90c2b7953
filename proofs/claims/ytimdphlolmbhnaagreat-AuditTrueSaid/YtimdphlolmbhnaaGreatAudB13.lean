/- Parts of the proof, one behind the other. -/
import Derived.Test.YtimdphlolmbhnaaGreatAudB12

/- audit: is a new node's ledger what it has committed? -/
namespace Go.Proofs.YtimdphlolmbhnaaGreat
open Go.RowKit Go.Heap

section
variable {B : Nat} {w0 w W W' : World} {ss rs : List Res}

theorem fold_z (h : Own B w0 W ss) : Calls Tryz.prog 76 #[.int .i64 2, .slice none 0 0] W fun e w' => ∃ x : Lg, e = .returned (.tuple #[.pointer (some ⟨x.p, 0, none⟩), .int .i64 0]) ∧ LgOk x ∧ x.lp = newL 2 ∧ Own B w0 w' (lgL x ++ ss) := by
  have HN := Lib.hid (ledger_new 2 (by omega) (by omega) h)
  clear h
  go_enter Tryz.func76, Tryz.ntmps76
  go_wp2_with fail
  refine HN.out.mono ?_
  rintro e w1 ⟨x, rfl, h1, h2, h3⟩
  have H1 := Lib.hid h1
  have H2 := Lib.hid h2
  have H3 := Lib.hid h3
  clear h1 h2 h3 HN
  go_wp2_with fail
  go_loop [20] (fun n => n = .int .i64 0) (fun _ => 0)
  case atStart => rfl
  case round =>
    subst hrel
    go_wp2_with fail
    go_ret2
    exact ⟨x, rfl, H1.out, H2.out, H3.out⟩

theorem batches_z {p : Nat} (h : CnAt B w0 W p ss) : Calls Tryz.prog 77 #[.pointer (some ⟨p, 0, none⟩)] W fun e w' => e = .returned (.slice none 0 0) ∧ CnAt B w0 w' p ss := by
  have HN := Lib.hid (node_committed h 0 (by omega))
  clear h
  go_enter Tryz.func77, Tryz.ntmps77
  go_wp2_with fail
  refine HN.out.mono ?_
  rintro e w1 ⟨rfl, h3⟩
  have H3 := Lib.hid h3
  clear h3 HN
  go_wp2_with fail
  go_loop [3, 9] (fun v n => v = nilS ∧ n = .int .i64 0) (fun _ _ => 0)
  case atStart => exact ⟨rfl, rfl⟩
  case round =>
    obtain ⟨rfl, rfl⟩ := hrel
    go_wp2_with fail
    go_ret
    exact ⟨rfl, H3.out⟩

theorem whole_z {p : Nat} (h : CnAt B w0 W p ss) : Calls Tryz.prog 42 #[.pointer (some ⟨p, 0, none⟩), .int .i64 2] W fun e w' => e = .returned (.bool true) ∧ CnAt B w0 w' p ss := by
  have HN := Lib.hid (batches_z h)
  clear h
  go_enter Tryz.func42, Tryz.ntmps42
  go_wp2_with fail
  refine HN.out.mono ?_
  rintro e w1 ⟨rfl, y, rfl, hk, h3⟩
  have HK := Lib.hid hk
  have HC := Lib.hid (fold_z h3)
  clear h3 hk HN
  go_wp2_with fail
  refine HC.out.mono ?_
  rintro e w2 ⟨x, rfl, h1, h2, h3⟩
  have H1 := Lib.hid h1
  have H2 := Lib.hid h2
  have h4 : Own B w0 w2 (cnR y :: (lgL x ++ ss)) := own_back (lgL x) (l := [cnR y]) h3
  have HL := Lib.hid (node_ledger h4 HK.out)
  clear h1 h2 h3 h4 HC
  go_wp2_with fail
  refine HL.out.mono ?_
  rintro e w3 ⟨z, rfl, h1, h2, h3⟩
  have h4 : Own B w0 w3 (lgL x ++ ((lgL z ++ [cnR y]) ++ ss)) := own_back (lgL z ++ [cnR y]) (l := lgL x) (by simpa only [List.append_assoc, List.cons_append, List.nil_append] using h3)
  have h5 : Own B w0 w3 (lgL x ++ (lgL z ++ (cnR y :: ss))) := by simpa only [List.append_assoc, List.cons_append, List.nil_append] using h4
  have HS := Lib.hid (ledger_same h5 H1.out h1 H2.out h2)
  have H5 := Lib.hid h5
  clear h1 h2 h3 h4 h5 HL H1 H2
  go_wp2_with fail
  refine HS.out.mono ?_
  rintro e w4 ⟨rfl, hu⟩
  have H6 := Lib.hid (H5.out.upd0 hu)
  clear hu HS H5
  go_wp2_with fail
  go_ret
  exact ⟨rfl, y, rfl, HK.out, H6.out.drop.drop.drop.drop.drop.drop.drop.drop.drop.drop⟩

end
end Go.Proofs.YtimdphlolmbhnaaGreat

/- audit: what a new cluster's parties have. -/
namespace Go.Proofs.YtimdphlolmbhnaaGreat
open Go.RowKit Go.Heap

def crR (x : Cr) : Res := joinR (crL x)
/-- A slice of nothing. -/
def ZV (v : Value) : Prop := ∃ a c, v = .slice a 0 c ∧ Z a c
structure Pt where
  a1 : Option Addr
  a2 : Option Addr
  a3 : Option Addr
  a4 : Option Addr
  a5 : Option Addr
  c1 : Nat
  c2 : Nat
  c3 : Nat
  c4 : Nat
  c5 : Nat
  ys : List Cn
  ls : List Value
  ids : List Value
  iss : List Value
  acs : List Value
abbrev ptCs (x : Pt) (n k k4 k5 : Nat) (n2 : Nat := n) : List Value := [.slice x.a1 n x.c1, .slice x.a2 n2 x.c2, .slice x.a3 k x.c3, .slice x.a4 k4 x.c4, .slice x.a5 k5 x.c5]
def ptL (x : Pt) (n n2 k k4 k5 : Nat) : List Res := [ownR 86 1 (.slice x.a1 n x.c1) n (x.ys.map fun y => ptrV y.p), ownR 29 1 (.slice x.a2 n2 x.c2) n2 x.ls, ownR 3 1 (.slice x.a3 k x.c3) k x.ids, ownR 33 1 (.slice x.a4 k4 x.c4) k4 x.iss, ownR 29 1 (.slice x.a5 k5 x.c5) k5 x.acs]
structure PtOk (x : Pt) (n k : Nat) : Prop where
  yn : x.ys.length = n
  ys : ∀ y ∈ x.ys, CnOk y
  ls : ∀ v ∈ x.ls, ZV v
  ids : x.ids = (List.range k).map fun (j : Nat) => Value.int .i64 j
  iss : ∀ v ∈ x.iss, ZV v
  acs : ∀ v ∈ x.acs, ZV v

abbrev ptZ : Obj := .cells #[nilS, nilS, nilS, nilS, nilS] 83 (0, 0)
/-- Parties that are being gathered. -/
def PtMk (B : Nat) (w0 w : World) (c : Nat) (pb rb q n k : Nat) (ss : List Res) : Prop :=
  ∃ (cr : Cr) (x : Pt), cr.p = c ∧ CrOk cr 4 2 ∧ PtOk x n k ∧ Own B w0 w (crR cr :: blk q cfgO :: blk rb ptZ :: segR pb 83 (ptCs x n k k k) :: (ptL x n n k k k ++ (x.ys.map cnR ++ ss)))

section
variable {B : Nat} {w0 w W W' : World} {ss rs : List Res}

theorem Tryz.infoEs : (Tryz.prog.info? 29).map (fun i => (i.zero, i.size, i.bytes)) = some (some (.slice none 0 0), 1, 24) := by kernel_rfl
theorem Tryz.infoRs : (Tryz.prog.info? 33).map (fun i => (i.zero, i.size, i.bytes)) = some (some (.slice none 0 0), 1, 24) := by kernel_rfl

theorem cluster_node' {x : Cr} {p : Nat} (hp : x.p = p) (h : Own B w0 W (crR x :: ss)) (hk : CrOk x 4 2) (k : Nat) (h4 : k < 4) :
    Calls Tryz.prog 70 #[.pointer (some ⟨p, 0, none⟩), .int .i64 k] W fun e w' => ∃ y : Cn, e = .returned (.tuple #[.pointer (some ⟨y.p, 0, none⟩), .bool true]) ∧ CnOk y ∧ Own B w0 w' (cnR y :: crR x :: ss) := by
  subst hp
  refine (cluster_node (Own.open (rs := crL x) h) hk k h4).mono ?_
  rintro e w' ⟨y, rfl, hy, h2⟩
  exact ⟨y, rfl, hy, (Own.shut (rs := crL x) (own_back [cnR y] (l := crL x) h2)).swap⟩

theorem cluster_client' {x : Cr} {p : Nat} (hp : x.p = p) (h : Own B w0 W (crR x :: ss)) (hk : CrOk x 4 2) (k : Nat) (h4 : k < 2) :
    Calls Tryz.prog 73 #[.pointer (some ⟨p, 0, none⟩), .int .i64 k] W fun e w' => ∃ y cs, e = .returned (.tuple #[.pointer (some ⟨y, 0, none⟩), .bool true]) ∧ CcCs cs ∧ Own W.heap.size W w' [segR y 198 cs] := by
  subst hp
  exact cluster_client (Own.open (rs := crL x) h) hk k h4

/-- A ledger, and all that stands in it. -/
theorem ledger_all_z {z : Lg} (h : Own B w0 W (lgL z ++ ss)) (hz : LgOk z) (hl : z.lp = newL 2) :
    Calls Tryz.prog 72 #[.pointer (some ⟨z.p, 0, none⟩)] W fun e w' => ∃ a c, e = .returned (.slice a 0 c) ∧ Z a c ∧ Own B w0 w' ss := by
  refine (ledger_all h hz).mono ?_
  rintro e w' ⟨v, rfl, h2⟩
  have he : z.es = [] := by
    simp only [Lg.lp, newL, Lp.mk.injEq] at hl
    exact hl.2.1
  have ho := ownR_owns h2.head
  rw [he] at ho
  obtain ⟨a, c, rfl, hz⟩ := Z.of ho
  exact ⟨a, c, rfl, hz, h2.drop.drop.drop.drop.drop.drop⟩

set_option maxHeartbeats 4000000 in
set_option maxRecDepth 100000 in
theorem audit_of {x : Cr} (h : Own B w0 W (crL x ++ ss)) (hk : CrOk x 4 2) :
    Calls Tryz.prog 35 #[.pointer (some ⟨x.p, 0, none⟩), cfgV] W fun e w' => ∃ pt : Pt, e = .returned (.agg (ptCs pt 4 2 2 2).toArray) ∧ PtOk pt 4 2 ∧ Own B w0 w' (ptL pt 4 4 2 2 2 ++ (pt.ys.map cnR ++ ss)) := by
  have h0 : Own B w0 W (crR x :: ss) := Own.shut h
  have h1 := ((h0.box cfgO).boxAt ptZ (n := W.heap.size + 1) (by simp)).boxAt ptZ (n := W.heap.size + 1 + 1) (by simp)
  have h2 := ((((((own_toSeg h1 rfl).row0 (E := 29) (sz := 1)).row0 (E := 33) (sz := 1)).row0 (E := 3) (sz := 1)).row0 (E := 29) (sz := 1)).row0 (E := 86) (sz := 1))
  have h3 := ((((h2.bring 5 rfl).bring 6 rfl).bring 7 rfl).bring 8 rfl)
  have H : Hid (PtMk B w0 _ x.p (W.heap.size + 1 + 1) (W.heap.size + 1) W.heap.size 0 0 ss) := Lib.hid ⟨x, ⟨none, none, none, none, none, 0, 0, 0, 0, 0, [], [], [], [], []⟩, rfl, hk, ⟨rfl, by simp, by simp, rfl, by simp, by simp⟩, h3⟩
  clear h h0 hk h1 h2 h3
  go_enter Tryz.func35, Tryz.ntmps35
  go_wp2_with fail
  generalize W.heap.size + 1 + 1 = pb at *
  generalize W.heap.size + 1 = rb at *
  generalize W.heap.size = q at *
  generalize World.alloc _ ptZ = w1 at *
  generalize x.p = xp at *
  obtain ⟨n0, hn, hn1, hn2, hn3⟩ := info_parts Tryz.infoNp
  obtain ⟨e0, he, he1, he2, he3⟩ := info_parts Tryz.infoEs
  obtain ⟨i0, hi, hi1, hi2, hi3⟩ := info_parts Tryz.infoIn
  obtain ⟨r0, hr, hr1, hr2, hr3⟩ := info_parts Tryz.infoRs
  go_loopw [6] (fun n wr => ∃ k : Nat, k ≤ 4 ∧ n = .int .i64 k ∧ Hid (PtMk B w0 wr xp pb rb q k 0 ss)) (fun n _ => 4 - (intOf n).toNat)
  case atStart => exact ⟨0, by omega, rfl, H⟩
  case round =>
    clear H
    obtain ⟨k, hk, rfl, HM⟩ := hrel
    obtain ⟨cr, ⟨a1, a2, a3, a4, a5, c1, c2, c3, c4, c5, ys, ls, ids, iss, acs⟩, hcp, hck, hpk, ho⟩ := HM.out
    have HCK := Lib.hid hck
    have HPK := Lib.hid hpk
    have HO := Lib.hid ho
    have HCP := Lib.hid hcp
    obtain ⟨q0, -⟩ := blk_at' ho 1 (b := q) (T := 57) (cs := cfgCs) rfl 0 (v := .int .i64 1) rfl
    clear ho HM hck hpk hcp
    go_wp2_with fail
    refine (nodes_one _).mono ?_
    rintro e w' ⟨rfl, rfl⟩
    by_cases hlt : k < 4
    · have hkI : (k : Int) < 4 := by omega
      have HC := Lib.hid (cluster_node' HCP.out HO.out HCK.out k hlt)
      have HMX := Lib.hid (small_max (k := k) (by omega))
      have HM8 := Lib.hid (small_8 (k := k) (by omega))
      have HM24 := Lib.hid (small_24 (k := k) (by omega))
      clear q0
      go_wp2_with fail
      refine HC.out.mono ?_
      rintro e w2 ⟨y, rfl, hy, h2⟩
      have HY := Lib.hid hy
      have H2 := Lib.hid h2
      obtain ⟨p0, -⟩ := seg_at h2 4 (b := pb) rfl 0 (v := .slice a1 k c1) rfl
      have hd := h2.alloc (.cells #[ptrV y.p] 86)
      have HD := Lib.hid hd
      have HW := Lib.hid (ownR_owns (hd.get 5 rfl))
      have HNW : Hid (∀ j u, [ptrV y.p][j]? = some u → (w2.alloc (.cells #[ptrV y.p] 86 (0, 0))).cell? ((⟨w2.heap.size, 0, none⟩ : Addr).add j) = some u) := Lib.hid (World.news_of_block (heap_alloc_new w2 (.cells #[ptrV y.p] 86 (0, 0))))
      have HON := Lib.hid (one_one (v := ptrV y.p) rfl)
      clear h2 hd hy HC HO
      go_wp2_with (at_builtin; refine wpList_append_lies _ rfl (.tmp 27) (.tmp 29) 81 rfl 0 86 n0 (.pointer none) 1 8 Tryz.underlying81 hn hn1 hn2 hn3 rfl (by decide) _ k _ rfl HW.out ⟨w2.heap.size, 0, none⟩ 1 1 [ptrV y.p] rfl rfl HNW.out HON.out (by decide) HMX.out HM8.out (Nat.zero_le _) _ rfl ?_)
      intro g cap w3 hown hgrow hat hlt3
      have h3 := HD.out.growAt 5 rfl hgrow (by simpa using hat) hown
      have H3 := Lib.hid h3
      obtain ⟨p0, z0⟩ := seg_at h3 4 (b := pb) rfl 0 rfl
      clear hown hgrow hat hlt3 h3 HD HW H2 HNW HON
      go_upto_region 8 with fail
      have H4 := Lib.hid (H3.out.putAt 4 rfl 0 (.slice (some ⟨g, 0, none⟩) (k + 1) cap))
      clear H3 p0 z0
      generalize w3.setCell ⟨pb, 0, none⟩ (.slice (some ⟨g, 0, none⟩) (k + 1) cap) = w4 at *
      have HC := Lib.hid (node_ledger H4.out.drew HY.out)
      obtain ⟨p1, -⟩ := seg_at H4.out.drew 4 (b := pb) rfl 1 (v := .slice a2 k c2) rfl
      clear H4
      refine Held.wp_held [(pb, 1, [.slice a2 k c2])] [(1, 0)] [8] [(4, true), (1, true), (2, true)] (by kernel_rfl) (by kernel_rfl) ⟨⟨p1, trivial⟩, trivial⟩ ?_
      simp only [Held.cutAt, Held.walk, List.take_succ_cons, List.take_zero, List.drop_succ_cons, List.drop_zero]
      go_wp2_with fail
      refine HC.out.mono ?_
      rintro e w5 ⟨z, rfl, hz, hl, h5⟩
      obtain ⟨p1, -⟩ := seg_at h5 9 (b := pb) rfl 1 (v := .slice a2 k c2) rfl
      have HC := Lib.hid (ledger_all_z h5 hz hl)
      clear h5 hz hl
      go_wp2_with fail
      refine ⟨⟨⟨p1, trivial⟩, trivial⟩, ?_⟩
      go_wp2_with fail
      refine HC.out.mono ?_
      rintro e w6 ⟨la, lc, rfl, hz, h6⟩
      have HZ := Lib.hid hz
      have H6 := Lib.hid h6
      obtain ⟨p1, -⟩ := seg_at h6 4 (b := pb) rfl 1 (v := .slice a2 k c2) rfl
      have hd := h6.alloc (.cells #[.slice la 0 lc] 29)
      have HD := Lib.hid hd
      have HW := Lib.hid (ownR_owns (hd.get 6 rfl))
      have HNW : Hid (∀ j u, [.slice la 0 lc][j]? = some u → (w6.alloc (.cells #[.slice la 0 lc] 29 (0, 0))).cell? ((⟨w6.heap.size, 0, none⟩ : Addr).add j) = some u) := Lib.hid (World.news_of_block (heap_alloc_new w6 (.cells #[.slice la 0 lc] 29 (0, 0))))
      have HON := Lib.hid (one_one (v := .slice la 0 lc) rfl)
      clear h6 hd hz HC
      go_wp2_with fail
      refine ⟨⟨⟨p1, trivial⟩, trivial⟩, ?_⟩
      go_wp2_with (at_builtin; refine wpList_append_lies _ rfl (.tmp 33) (.tmp 37) 49 rfl 0 29 e0 (.slice none 0 0) 1 24 Tryz.underlying49 he he1 he2 he3 rfl (by decide) _ k _ rfl HW.out ⟨w6.heap.size, 0, none⟩ 1 1 [.slice la 0 lc] rfl rfl HNW.out HON.out (by decide) HMX.out HM24.out (Nat.zero_le _) _ rfl ?_)
      intro g2 cap2 w7 hown hgrow hat hlt3
      have h7 := HD.out.growAt 6 rfl hgrow (by simpa using hat) hown
      have H7 := Lib.hid h7
      obtain ⟨p1, z1⟩ := seg_at h7 4 (b := pb) rfl 1 rfl
      clear hown hgrow hat hlt3 h7 HD HW H6 HNW HON
      go_wp2_with fail
      refine ⟨⟨⟨p1, trivial⟩, trivial⟩, ?_⟩
      go_wp2_with fail
      refine ⟨trivial, by rfl, ⟨⟨rfl, .inl ⟨by kernel_rfl, rfl⟩⟩, trivial⟩, ?_⟩
      go_wp2_with fail
      have h8 := H7.out.putAt 4 rfl 1 (.slice (some ⟨g2, 0, none⟩) (k + 1) cap2)
      have h9 := h8.perm (perm_one (cnR y) [_, _, _, _, _, _, _, _, _] (ys.map cnR) ss)
      have HN : Hid (PtMk B w0 (w7.setCell ⟨pb, 1, none⟩ (.slice (some ⟨g2, 0, none⟩) (k + 1) cap2)) xp pb rb q (k + 1) 0 ss) := Lib.hid ⟨cr, ⟨some ⟨g, 0, none⟩, some ⟨g2, 0, none⟩, a3, a4, a5, cap, cap2, c3, c4, c5, ys ++ [y], ls ++ [.slice la 0 lc], ids, iss, acs⟩, HCP.out, HCK.out, ⟨by have := HPK.out.yn; simp at this ⊢; exact this, fun v hv => by
          rcases List.mem_append.1 hv with hv | hv
          · exact HPK.out.ys v hv
          · simp at hv; subst hv; exact HY.out, fun v hv => by
          rcases List.mem_append.1 hv with hv | hv
          · exact HPK.out.ls v hv
          · simp at hv; subst hv; exact ⟨la, lc, rfl, HZ.out⟩, HPK.out.ids, HPK.out.iss, HPK.out.acs⟩, by
          simp only [ptL, List.map_append, List.map_cons, List.map_nil]
          exact h9⟩
      clear h8 h9 H7 p1 z1
      go_roundw
      case rel => exact ⟨k + 1, by omega, by go_num, HN⟩
      case measure => simp [intOf]; omega
    · have hk2 : k = 4 := by omega
      have hkI : decide ((k : Int) < 4) = false := by simp; omega
      subst hk2
      rw [show ((4 : Nat) : Int) = 4 from rfl]
      have HN : Hid (PtMk B w0 wr xp pb rb q 4 0 ss) := Lib.hid ⟨_, _, HCP.out, HCK.out, HPK.out, HO.out⟩
      clear HO q0 HCK HPK HCP
      go_wp2_with fail
      go_loopw [9] (fun n wr => ∃ k : Nat, k ≤ 2 ∧ n = .int .i64 k ∧ Hid (PtMk B w0 wr xp pb rb q 4 k ss)) (fun n _ => 2 - (intOf n).toNat)
      case atStart => exact ⟨0, by omega, rfl, HN⟩
      case round =>
        clear HN
        obtain ⟨k, hk, rfl, HM⟩ := hrel
        obtain ⟨cr, ⟨a1, a2, a3, a4, a5, c1, c2, c3, c4, c5, ys, ls, ids, iss, acs⟩, hcp, hck, hpk, ho⟩ := HM.out
        have HCK := Lib.hid hck
        have HPK := Lib.hid hpk
        have HO := Lib.hid ho
        have HCP := Lib.hid hcp
        obtain ⟨q1, -⟩ := blk_at' ho 1 (b := q) (T := 57) (cs := cfgCs) rfl 1 (v := .int .i64 2) rfl
        clear ho HM hck hpk hcp
        by_cases hlt : k < 2
        · have hkI : (k : Int) < 2 := by omega
          have HC := Lib.hid (cluster_client' HCP.out HO.out HCK.out k hlt)
          have HMX := Lib.hid (small_max (k := k) (by omega))
          have HM8 := Lib.hid (small_8 (k := k) (by omega))
          have HM24 := Lib.hid (small_24 (k := k) (by omega))
          go_wp2_with fail
          clear q1
          refine HC.out.mono ?_
          rintro e w2 ⟨y, cs, rfl, hy, hu⟩
          have HY := Lib.hid hy
          have h2 := own_and HO.out hu
          obtain ⟨p2, -⟩ := seg_at h2 4 (b := pb) rfl 2 (v := .slice a3 k c3) rfl
          have hd := h2.alloc (.cells #[.int .i64 k] 3)
          have HD := Lib.hid hd
          have HW := Lib.hid (ownR_owns (hd.get 7 rfl))
          have HNW : Hid (∀ j u, [.int .i64 (k : Int)][j]? = some u → (w2.alloc (.cells #[.int .i64 (k : Int)] 3 (0, 0))).cell? ((⟨w2.heap.size, 0, none⟩ : Addr).add j) = some u) := Lib.hid (World.news_of_block (heap_alloc_new w2 (.cells #[.int .i64 (k : Int)] 3 (0, 0))))
          have HON := Lib.hid (one_one (v := .int .i64 (k : Int)) rfl)
          clear h2 hd hy HC HO hu
          go_wp2_with (at_builtin; refine wpList_append_lies _ rfl (.tmp 54) (.tmp 56) 64 rfl 0 3 i0 (.int .i64 0) 1 8 Tryz.underlying64 hi hi1 hi2 hi3 rfl (by decide) _ k _ rfl HW.out ⟨w2.heap.size, 0, none⟩ 1 1 [.int .i64 (k : Int)] rfl rfl HNW.out HON.out (by decide) HMX.out HM8.out (Nat.zero_le _) _ rfl ?_)
          intro g cap w3 hown hgrow hat hlt3
          have h3 := HD.out.growAt 7 rfl hgrow (by simpa using hat) hown
          have H3 := Lib.hid h3
          obtain ⟨p2, z2⟩ := seg_at h3 4 (b := pb) rfl 2 rfl
          clear hown hgrow hat hlt3 h3 HD HW HNW HON
          go_upto_region 15 with fail
          have H4 := Lib.hid (H3.out.putAt 4 rfl 2 (.slice (some ⟨g, 0, none⟩) (k + 1) cap))
          clear H3 p2 z2
          generalize w3.setCell ⟨pb, 2, none⟩ (.slice (some ⟨g, 0, none⟩) (k + 1) cap) = w4 at *
          obtain ⟨p3, -⟩ := seg_at H4.out.drew 4 (b := pb) rfl 3 (v := .slice a4 k c4) rfl
          obtain ⟨b1, d1, b2, d2, f19, z19, f22, z22⟩ := HY.out
          have HC := Lib.hid (client_issued (seg_at H4.out.drew 0 (b := y) rfl 19 f19).1 z19)
          clear f19 z19 f22 z22
          refine Held.wp_held [(pb, 3, [.slice a4 k c4])] [(1, 0)] [7] [(4, true), (2, true)] (by kernel_rfl) (by kernel_rfl) ⟨⟨p3, trivial⟩, trivial⟩ ?_
          simp only [Held.cutAt, Held.walk, List.take_succ_cons, List.take_zero, List.drop_succ_cons, List.drop_zero]
          go_wp2_with fail
          refine HC.out.mono ?_
          rintro e w5 ⟨ia, ic, rfl, hz, hu⟩
          have HZ3 := Lib.hid hz
          have h5 := H4.out.drew.upd0 hu
          obtain ⟨p3, -⟩ := seg_at h5 4 (b := pb) rfl 3 (v := .slice a4 k c4) rfl
          have hd := h5.alloc (.cells #[.slice ia 0 ic] 33)
          have HD := Lib.hid hd
          have HW := Lib.hid (ownR_owns (hd.get 8 rfl))
          have HNW : Hid (∀ j u, [.slice ia 0 ic][j]? = some u → (w5.alloc (.cells #[.slice ia 0 ic] 33 (0, 0))).cell? ((⟨w5.heap.size, 0, none⟩ : Addr).add j) = some u) := Lib.hid (World.news_of_block (heap_alloc_new w5 (.cells #[.slice ia 0 ic] 33 (0, 0))))
          have HON := Lib.hid (one_one (v := .slice ia 0 ic) rfl)
          clear h5 hd hz hu HC H4
          go_wp2_with fail
          refine ⟨⟨⟨p3, trivial⟩, trivial⟩, ?_⟩
          go_wp2_with (at_builtin; refine wpList_append_lies _ rfl (.tmp 60) (.tmp 63) 22 rfl 0 33 r0 (.slice none 0 0) 1 24 Tryz.underlying22 hr hr1 hr2 hr3 rfl (by decide) _ k _ rfl HW.out ⟨w5.heap.size, 0, none⟩ 1 1 [.slice ia 0 ic] rfl rfl HNW.out HON.out (by decide) HMX.out HM24.out (Nat.zero_le _) _ rfl ?_)
          intro g2 cap2 w6 hown hgrow hat hlt3
          have h7 := HD.out.growAt 8 rfl hgrow (by simpa using hat) hown
          have H7 := Lib.hid h7
          obtain ⟨p3, z3⟩ := seg_at h7 4 (b := pb) rfl 3 rfl
          clear hown hgrow hat hlt3 h7 HD HW HNW HON
          go_wp2_with fail
          refine ⟨⟨⟨p3, trivial⟩, trivial⟩, ?_⟩
          go_wp2_with fail
          refine ⟨trivial, by rfl, ⟨⟨rfl, .inl ⟨by kernel_rfl, rfl⟩⟩, trivial⟩, ?_⟩
          go_upto_region 16 with fail
          have H8 := Lib.hid (H7.out.putAt 4 rfl 3 (.slice (some ⟨g2, 0, none⟩) (k + 1) cap2))
          clear H7 p3 z3
          generalize w6.setCell ⟨pb, 3, none⟩ (.slice (some ⟨g2, 0, none⟩) (k + 1) cap2) = w7 at *
          obtain ⟨p4, -⟩ := seg_at H8.out.drew 4 (b := pb) rfl 4 (v := .slice a5 k c5) rfl
          obtain ⟨b1, d1, b2, d2, f19, z19, f22, z22⟩ := HY.out
          have HC := Lib.hid (client_accepted (seg_at H8.out.drew 0 (b := y) rfl 22 f22).1 z22)
          clear f19 z19 f22 z22
          refine Held.wp_held [(pb, 4, [.slice a5 k c5])] [(1, 0)] [7] [(4, true), (2, true)] (by kernel_rfl) (by kernel_rfl) ⟨⟨p4, trivial⟩, trivial⟩ ?_
          simp only [Held.cutAt, Held.walk, List.take_succ_cons, List.take_zero, List.drop_succ_cons, List.drop_zero]
          go_wp2_with fail
          refine HC.out.mono ?_
          rintro e w8 ⟨ja, jc, rfl, hz, hu⟩
          have HZ4 := Lib.hid hz
          have h5 := H8.out.drew.upd0 hu
          obtain ⟨p4, -⟩ := seg_at h5 4 (b := pb) rfl 4 (v := .slice a5 k c5) rfl
          have hd := h5.alloc (.cells #[.slice ja 0 jc] 29)
          have HD := Lib.hid hd
          have HW := Lib.hid (ownR_owns (hd.get 9 rfl))
          have HNW : Hid (∀ j u, [.slice ja 0 jc][j]? = some u → (w8.alloc (.cells #[.slice ja 0 jc] 29 (0, 0))).cell? ((⟨w8.heap.size, 0, none⟩ : Addr).add j) = some u) := Lib.hid (World.news_of_block (heap_alloc_new w8 (.cells #[.slice ja 0 jc] 29 (0, 0))))
          have HON := Lib.hid (one_one (v := .slice ja 0 jc) rfl)
          clear h5 hd hz hu HC H8
          go_wp2_with fail
          refine ⟨⟨⟨p4, trivial⟩, trivial⟩, ?_⟩
          go_wp2_with (at_builtin; refine wpList_append_lies _ rfl (.tmp 67) (.tmp 70) 49 rfl 0 29 e0 (.slice none 0 0) 1 24 Tryz.underlying49 he he1 he2 he3 rfl (by decide) _ k _ rfl HW.out ⟨w8.heap.size, 0, none⟩ 1 1 [.slice ja 0 jc] rfl rfl HNW.out HON.out (by decide) HMX.out HM24.out (Nat.zero_le _) _ rfl ?_)
          intro g3 cap3 w9 hown hgrow hat hlt3
          have h7 := HD.out.growAt 9 rfl hgrow (by simpa using hat) hown
          have H7 := Lib.hid h7
          obtain ⟨p4, z4⟩ := seg_at h7 4 (b := pb) rfl 4 rfl
          clear hown hgrow hat hlt3 h7 HD HW HNW HON
          go_wp2_with fail
          refine ⟨⟨⟨p4, trivial⟩, trivial⟩, ?_⟩
          go_wp2_with fail
          refine ⟨trivial, by rfl, ⟨⟨rfl, .inl ⟨by kernel_rfl, rfl⟩⟩, trivial⟩, ?_⟩
          go_wp2_with fail
          have h9 := (H7.out.putAt 4 rfl 4 (.slice (some ⟨g3, 0, none⟩) (k + 1) cap3)).drop
          have HN : Hid (PtMk B w0 (w9.setCell ⟨pb, 4, none⟩ (.slice (some ⟨g3, 0, none⟩) (k + 1) cap3)) xp pb rb q 4 (k + 1) ss) := Lib.hid ⟨cr, ⟨a1, a2, some ⟨g, 0, none⟩, some ⟨g2, 0, none⟩, some ⟨g3, 0, none⟩, c1, c2, cap, cap2, cap3, ys, ls, ids ++ [.int .i64 k], iss ++ [.slice ia 0 ic], acs ++ [.slice ja 0 jc]⟩, HCP.out, HCK.out, ⟨HPK.out.yn, HPK.out.ys, HPK.out.ls, by
              have := HPK.out.ids
              simp only at this ⊢
              rw [this, List.range_succ, List.map_append]; rfl, fun v hv => by
              rcases List.mem_append.1 hv with hv | hv
              · exact HPK.out.iss v hv
              · simp at hv; subst hv; exact ⟨ia, ic, rfl, HZ3.out⟩, fun v hv => by
              rcases List.mem_append.1 hv with hv | hv
              · exact HPK.out.acs v hv
              · simp at hv; subst hv; exact ⟨ja, jc, rfl, HZ4.out⟩⟩, by
              simp only [ptL, ptCs]
              exact h9⟩
          clear h9 H7 p4 z4
          go_roundw
          case rel => exact ⟨k + 1, by omega, by go_num, HN⟩
          case measure => simp [intOf]; omega
        · have hk2 : k = 2 := by omega
          have hkI : decide ((k : Int) < 2) = false := by simp; omega
          subst hk2
          obtain ⟨s0, -⟩ := seg_at HO.out 3 (b := pb) rfl 0 (v := .slice a1 4 c1) rfl
          obtain ⟨s1, -⟩ := seg_at HO.out 3 (b := pb) rfl 1 (v := .slice a2 4 c2) rfl
          obtain ⟨s2, -⟩ := seg_at HO.out 3 (b := pb) rfl 2 (v := .slice a3 2 c3) rfl
          obtain ⟨s3, -⟩ := seg_at HO.out 3 (b := pb) rfl 3 (v := .slice a4 2 c4) rfl
          obtain ⟨s4, -⟩ := seg_at HO.out 3 (b := pb) rfl 4 (v := .slice a5 2 c5) rfl
          have hb := HO.out.blkAt 2 (b := rb) (o := ptZ) rfl
          obtain ⟨t0, y0⟩ := blk_at' HO.out 2 (b := rb) (T := 83) rfl 0 (v := nilS) rfl
          obtain ⟨t1, y1⟩ := blk_at' HO.out 2 (b := rb) (T := 83) rfl 1 (v := nilS) rfl
          obtain ⟨t2, y2⟩ := blk_at' HO.out 2 (b := rb) (T := 83) rfl 2 (v := nilS) rfl
          obtain ⟨t3, y3⟩ := blk_at' HO.out 2 (b := rb) (T := 83) rfl 3 (v := nilS) rfl
          obtain ⟨t4, y4⟩ := blk_at' HO.out 2 (b := rb) (T := 83) rfl 4 (v := nilS) rfl
          clear hb
          go_wp2_with fail
          have hF := ((((HO.out.storeAt 2 rfl 0 (.slice a1 4 c1)).storeAt 2 rfl 1 (.slice a2 4 c2)).storeAt 2 rfl 2 (.slice a3 2 c3)).storeAt 2 rfl 3 (.slice a4 2 c4)).storeAt 2 rfl 4 (.slice a5 2 c5)
          generalize World.setCell _ ⟨rb, 4, none⟩ _ = wF at *
          obtain ⟨u0, -⟩ := blk_at' hF 2 (b := rb) (T := 83) (cs := #[.slice a1 4 c1, .slice a2 4 c2, .slice a3 2 c3, .slice a4 2 c4, .slice a5 2 c5]) rfl 0 rfl
          obtain ⟨u1, -⟩ := blk_at' hF 2 (b := rb) (T := 83) (cs := #[.slice a1 4 c1, .slice a2 4 c2, .slice a3 2 c3, .slice a4 2 c4, .slice a5 2 c5]) rfl 1 rfl
          obtain ⟨u2, -⟩ := blk_at' hF 2 (b := rb) (T := 83) (cs := #[.slice a1 4 c1, .slice a2 4 c2, .slice a3 2 c3, .slice a4 2 c4, .slice a5 2 c5]) rfl 2 rfl
          obtain ⟨u3, -⟩ := blk_at' hF 2 (b := rb) (T := 83) (cs := #[.slice a1 4 c1, .slice a2 4 c2, .slice a3 2 c3, .slice a4 2 c4, .slice a5 2 c5]) rfl 3 rfl
          obtain ⟨u4, -⟩ := blk_at' hF 2 (b := rb) (T := 83) (cs := #[.slice a1 4 c1, .slice a2 4 c2, .slice a3 2 c3, .slice a4 2 c4, .slice a5 2 c5]) rfl 4 rfl
          refine bodyPost_ret (v := .agg #[.slice a1 4 c1, .slice a2 4 c2, .slice a3 2 c3, .slice a4 2 c4, .slice a5 2 c5]) (by simp [results, Tryz.results35, go_sem, u0, u1, u2, u3, u4]) rfl ⟨⟨a1, a2, a3, a4, a5, c1, c2, c3, c4, c5, ys, ls, ids, iss, acs⟩, rfl, HPK.out, ?_⟩
          exact hF.drop.drop.drop.drop

end
end Go.Proofs.YtimdphlolmbhnaaGreat

/- audit: the rules over a new cluster's parties. -/
namespace Go.Proofs.YtimdphlolmbhnaaGreat
open Go.RowKit Go.Heap

section
variable {B : Nat} {w0 w W W' : World} {ss rs : List Res}

set_option maxHeartbeats 1600000 in
theorem agree_z {g cap : Nat} {ls : List Value} (hn : ls.length = 4) (hcap : 4 ≤ cap) (hc : ∀ j v, ls[j]? = some v → W.cell? ⟨g, j, none⟩ = some v) (hz : ∀ v ∈ ls, ZV v) :
    Calls Tryz.prog 11 #[.slice (some ⟨g, 0, none⟩) 4 cap] W fun e w' => e = .returned (.bool true) ∧ W = w' := by
  have HC := Lib.hid hc
  have HZ := Lib.hid hz
  have HN := Lib.hid hn
  have hcI : (4 : Int) ≤ (cap : Int) := by omega
  clear hn hc hz hcap
  go_enter Tryz.func11, Tryz.ntmps11
  go_wp2_with fail
  go_loop [9] (fun n => ∃ k : Nat, k ≤ 4 ∧ n = .int .i64 k) (fun n => 4 - (intOf n).toNat)
  case atStart => exact ⟨0, by omega, rfl⟩
  case round =>
    obtain ⟨k, hk, rfl⟩ := hrel
    by_cases hlt : k < 4
    · have hkI : (k : Int) < 4 := by omega
      have hk0 : (0 : Int) ≤ (k : Int) := by omega
      have hkc : (k : Int) ≤ (cap : Int) := by omega
      obtain ⟨v, hv⟩ : ∃ v, ls[k]? = some v := ⟨_, List.getElem?_eq_getElem (by rw [HN.out]; exact hlt)⟩
      obtain ⟨a, c, rfl, -⟩ := HZ.out v (List.mem_of_getElem? hv)
      have ck := HC.out k _ hv
      clear hv
      go_wp2_with fail
      clear ck
      go_loop [18] (fun n => ∃ j : Nat, j ≤ k ∧ n = .int .i64 j) (fun n => k - (intOf n).toNat)
      case atStart => exact ⟨0, by omega, rfl⟩
      case round =>
        obtain ⟨j, hj, rfl⟩ := hrel
        by_cases hlj : j < k
        · have hjI : (j : Int) < (k : Int) := by omega
          have hj0 : (0 : Int) ≤ (j : Int) := by omega
          obtain ⟨v, hv⟩ : ∃ v, ls[j]? = some v := ⟨_, List.getElem?_eq_getElem (by rw [HN.out]; omega)⟩
          obtain ⟨b, d, rfl, -⟩ := HZ.out v (List.mem_of_getElem? hv)
          have cj := HC.out j _ hv
          clear hv
          go_wp2_with fail
          refine (prefix_z a b c d 0 _).mono ?_
          rintro e w1 ⟨rfl, rfl⟩
          clear cj
          go_wp2_with fail
          go_round
          case rel => exact ⟨j + 1, by omega, by go_num⟩
          case measure => simp [intOf]; omega
        · have hjI : decide ((j : Int) < (k : Int)) = false := by simp; omega
          go_wp2_with fail
          go_round
          case rel => exact ⟨k + 1, by omega, by go_num⟩
          case measure => simp [intOf]; omega
    · have hkI : decide ((k : Int) < 4) = false := by simp; omega
      go_wp2_with fail
      go_ret
      exact ⟨rfl, rfl⟩

/-- What holds of each log. -/
def LogsAt (w : World) (pt : Pt) : Prop := ∃ g, pt.a2 = some ⟨g, 0, none⟩ ∧ 4 ≤ pt.c2 ∧ pt.ls.length = 4 ∧ (∀ j v, pt.ls[j]? = some v → w.cell? ⟨g, j, none⟩ = some v) ∧ ∀ v ∈ pt.ls, ZV v
theorem LogsAt.upd {pt : Pt} (h : LogsAt w pt) (hu : Upd [] w W) : LogsAt W pt := by
  obtain ⟨g, h1, h2, h3, h4, h5⟩ := h
  exact ⟨g, h1, h2, h3, fun j v hj => cell_upd hu (h4 j v hj), h5⟩

set_option maxHeartbeats 1600000 in
set_option maxRecDepth 100000 in
theorem each_once {pt : Pt} (h : LogsAt W pt) (hf : ∀ w1, Upd [] W w1 → ∀ a c, Calls Tryz.prog 14 #[.slice a 0 c] w1 fun e w' => e = .returned (.bool true) ∧ Upd [] w1 w') :
    Calls Tryz.prog 38 #[.agg (ptCs pt 4 2 2 2).toArray, .func (.func 14) #[] #[]] W fun e w' => e = .returned (.bool true) ∧ Upd [] W w' := by
  obtain ⟨g, h1, h2, h3, h4, h5⟩ := h
  obtain ⟨a1, a2, a3, a4, a5, c1, c2, c3, c4, c5, ys, ls, ids, iss, acs⟩ := pt
  simp only at h1 h2 h3 h4 h5
  subst h1
  have HC := Lib.hid h4
  have HZ := Lib.hid h5
  have HN := Lib.hid h3
  have HF := Lib.hid hf
  have hcI : (4 : Int) ≤ (c2 : Int) := by omega
  clear h2 h3 h4 h5 hf
  go_enter Tryz.func38, Tryz.ntmps38
  go_wp2_with fail
  go_loopw [10] (fun n wr => ∃ k : Nat, k ≤ 4 ∧ n = .int .i64 k ∧ Hid (Upd [] W wr)) (fun n _ => 4 - (intOf n).toNat)
  case atStart => exact ⟨0, by omega, rfl, Lib.hid ((Upd.refl _ _).alloc _)⟩
  case round =>
    obtain ⟨k, hk, rfl, HU⟩ := hrel
    by_cases hlt : k < 4
    · have hkI : (k : Int) < 4 := by omega
      have hk0 : (0 : Int) ≤ (k : Int) := by omega
      obtain ⟨v, hv⟩ : ∃ v, ls[k]? = some v := ⟨_, List.getElem?_eq_getElem (by rw [HN.out]; exact hlt)⟩
      obtain ⟨a, c, rfl, -⟩ := HZ.out v (List.mem_of_getElem? hv)
      have ck := cell_upd HU.out (HC.out k _ hv)
      clear hv
      go_wp2_with fail
      refine (HF.out _ HU.out a c).mono ?_
      rintro e w2 ⟨rfl, hu⟩
      have HU2 := Lib.hid (HU.out.trans hu)
      clear hu ck
      go_wp2_with fail
      go_roundw
      case rel => exact ⟨k + 1, by omega, by go_num, HU2⟩
      case measure => simp [intOf]; omega
    · have hkI : decide ((k : Int) < 4) = false := by simp; omega
      go_wp2_with fail
      go_ret
      exact ⟨rfl, HU.out⟩

set_option maxHeartbeats 1600000 in
set_option maxRecDepth 100000 in
theorem each_follows {pt : Pt} (q : Nat) (h : LogsAt W pt) (hf : ∀ w1, Upd [] W w1 → ∀ a c, Calls Tryz.prog 40 #[.slice a 0 c, ptrV q] w1 fun e w' => e = .returned (.bool true) ∧ Upd [] w1 w') :
    Calls Tryz.prog 38 #[.agg (ptCs pt 4 2 2 2).toArray, .func (.func 40) #[] #[ptrV q]] W fun e w' => e = .returned (.bool true) ∧ Upd [] W w' := by
  obtain ⟨g, h1, h2, h3, h4, h5⟩ := h
  obtain ⟨a1, a2, a3, a4, a5, c1, c2, c3, c4, c5, ys, ls, ids, iss, acs⟩ := pt
  simp only at h1 h2 h3 h4 h5
  subst h1
  have HC := Lib.hid h4
  have HZ := Lib.hid h5
  have HN := Lib.hid h3
  have HF := Lib.hid hf
  have hcI : (4 : Int) ≤ (c2 : Int) := by omega
  clear h2 h3 h4 h5 hf
  go_enter Tryz.func38, Tryz.ntmps38
  go_wp2_with fail
  go_loopw [10] (fun n wr => ∃ k : Nat, k ≤ 4 ∧ n = .int .i64 k ∧ Hid (Upd [] W wr)) (fun n _ => 4 - (intOf n).toNat)
  case atStart => exact ⟨0, by omega, rfl, Lib.hid ((Upd.refl _ _).alloc _)⟩
  case round =>
    obtain ⟨k, hk, rfl, HU⟩ := hrel
    by_cases hlt : k < 4
    · have hkI : (k : Int) < 4 := by omega
      have hk0 : (0 : Int) ≤ (k : Int) := by omega
      obtain ⟨v, hv⟩ : ∃ v, ls[k]? = some v := ⟨_, List.getElem?_eq_getElem (by rw [HN.out]; exact hlt)⟩
      obtain ⟨a, c, rfl, -⟩ := HZ.out v (List.mem_of_getElem? hv)
      have ck := cell_upd HU.out (HC.out k _ hv)
      clear hv
      go_wp2_with fail
      refine (HF.out _ HU.out a c).mono ?_
      rintro e w2 ⟨rfl, hu⟩
      have HU2 := Lib.hid (HU.out.trans hu)
      clear hu ck
      go_wp2_with fail
      go_roundw
      case rel => exact ⟨k + 1, by omega, by go_num, HU2⟩
      case measure => simp [intOf]; omega
    · have hkI : decide ((k : Int) < 4) = false := by simp; omega
      go_wp2_with fail
      go_ret
      exact ⟨rfl, HU.out⟩

set_option maxHeartbeats 1600000 in
set_option maxRecDepth 100000 in
theorem each_kept {pt : Pt} (q : Nat) (h : LogsAt W pt) (hf : ∀ w1, Upd [] W w1 → ∀ a c, Calls Tryz.prog 44 #[.slice a 0 c, ptrV q] w1 fun e w' => e = .returned (.bool true) ∧ Upd [] w1 w') :
    Calls Tryz.prog 38 #[.agg (ptCs pt 4 2 2 2).toArray, .func (.func 44) #[] #[ptrV q]] W fun e w' => e = .returned (.bool true) ∧ Upd [] W w' := by
  obtain ⟨g, h1, h2, h3, h4, h5⟩ := h
  obtain ⟨a1, a2, a3, a4, a5, c1, c2, c3, c4, c5, ys, ls, ids, iss, acs⟩ := pt
  simp only at h1 h2 h3 h4 h5
  subst h1
  have HC := Lib.hid h4
  have HZ := Lib.hid h5
  have HN := Lib.hid h3
  have HF := Lib.hid hf
  have hcI : (4 : Int) ≤ (c2 : Int) := by omega
  clear h2 h3 h4 h5 hf
  go_enter Tryz.func38, Tryz.ntmps38
  go_wp2_with fail
  go_loopw [10] (fun n wr => ∃ k : Nat, k ≤ 4 ∧ n = .int .i64 k ∧ Hid (Upd [] W wr)) (fun n _ => 4 - (intOf n).toNat)
  case atStart => exact ⟨0, by omega, rfl, Lib.hid ((Upd.refl _ _).alloc _)⟩
  case round =>
    obtain ⟨k, hk, rfl, HU⟩ := hrel
    by_cases hlt : k < 4
    · have hkI : (k : Int) < 4 := by omega
      have hk0 : (0 : Int) ≤ (k : Int) := by omega
      obtain ⟨v, hv⟩ : ∃ v, ls[k]? = some v := ⟨_, List.getElem?_eq_getElem (by rw [HN.out]; exact hlt)⟩
      obtain ⟨a, c, rfl, -⟩ := HZ.out v (List.mem_of_getElem? hv)
      have ck := cell_upd HU.out (HC.out k _ hv)
      clear hv
      go_wp2_with fail
      refine (HF.out _ HU.out a c).mono ?_
      rintro e w2 ⟨rfl, hu⟩
      have HU2 := Lib.hid (HU.out.trans hu)
      clear hu ck
      go_wp2_with fail
      go_roundw
      case rel => exact ⟨k + 1, by omega, by go_num, HU2⟩
      case measure => simp [intOf]; omega
    · have hkI : decide ((k : Int) < 4) = false := by simp; omega
      go_wp2_with fail
      go_ret
      exact ⟨rfl, HU.out⟩

set_option maxHeartbeats 1600000 in
set_option maxRecDepth 100000 in
theorem each_given {pt : Pt} (q : Nat) (h : LogsAt W pt) (hf : ∀ w1, Upd [] W w1 → ∀ a c, Calls Tryz.prog 46 #[.slice a 0 c, ptrV q] w1 fun e w' => e = .returned (.bool true) ∧ Upd [] w1 w') :
    Calls Tryz.prog 38 #[.agg (ptCs pt 4 2 2 2).toArray, .func (.func 46) #[] #[ptrV q]] W fun e w' => e = .returned (.bool true) ∧ Upd [] W w' := by
  obtain ⟨g, h1, h2, h3, h4, h5⟩ := h
  obtain ⟨a1, a2, a3, a4, a5, c1, c2, c3, c4, c5, ys, ls, ids, iss, acs⟩ := pt
  simp only at h1 h2 h3 h4 h5
  subst h1
  have HC := Lib.hid h4
  have HZ := Lib.hid h5
  have HN := Lib.hid h3
  have HF := Lib.hid hf
  have hcI : (4 : Int) ≤ (c2 : Int) := by omega
  clear h2 h3 h4 h5 hf
  go_enter Tryz.func38, Tryz.ntmps38
  go_wp2_with fail
  go_loopw [10] (fun n wr => ∃ k : Nat, k ≤ 4 ∧ n = .int .i64 k ∧ Hid (Upd [] W wr)) (fun n _ => 4 - (intOf n).toNat)
  case atStart => exact ⟨0, by omega, rfl, Lib.hid ((Upd.refl _ _).alloc _)⟩
  case round =>
    obtain ⟨k, hk, rfl, HU⟩ := hrel
    by_cases hlt : k < 4
    · have hkI : (k : Int) < 4 := by omega
      have hk0 : (0 : Int) ≤ (k : Int) := by omega
      obtain ⟨v, hv⟩ : ∃ v, ls[k]? = some v := ⟨_, List.getElem?_eq_getElem (by rw [HN.out]; exact hlt)⟩
      obtain ⟨a, c, rfl, -⟩ := HZ.out v (List.mem_of_getElem? hv)
      have ck := cell_upd HU.out (HC.out k _ hv)
      clear hv
      go_wp2_with fail
      refine (HF.out _ HU.out a c).mono ?_
      rintro e w2 ⟨rfl, hu⟩
      have HU2 := Lib.hid (HU.out.trans hu)
      clear hu ck
      go_wp2_with fail
      go_roundw
      case rel => exact ⟨k + 1, by omega, by go_num, HU2⟩
      case measure => simp [intOf]; omega
    · have hkI : decide ((k : Int) < 4) = false := by simp; omega
      go_wp2_with fail
      go_ret
      exact ⟨rfl, HU.out⟩

end
end Go.Proofs.YtimdphlolmbhnaaGreat

/- audit: the rules, closure by closure. -/
namespace Go.Proofs.YtimdphlolmbhnaaGreat
open Go.RowKit Go.Heap

/-- A row of a slice's cells. -/
def RowAt (w : World) (a : Option Addr) (c n : Nat) (xs : List Value) : Prop := ∃ g, a = some ⟨g, 0, none⟩ ∧ n ≤ c ∧ xs.length = n ∧ ∀ j v, xs[j]? = some v → w.cell? ⟨g, j, none⟩ = some v
/-- What the parties' variable, and all that it names, hold. -/
structure PtAt (w : World) (pb q : Nat) (pt : Pt) : Prop where
  p0 : w.cell? ⟨pb, 0, none⟩ = some (.slice pt.a1 4 pt.c1)
  p1 : w.cell? ⟨pb, 1, none⟩ = some (.slice pt.a2 4 pt.c2)
  p2 : w.cell? ⟨pb, 2, none⟩ = some (.slice pt.a3 2 pt.c3)
  p3 : w.cell? ⟨pb, 3, none⟩ = some (.slice pt.a4 2 pt.c4)
  p4 : w.cell? ⟨pb, 4, none⟩ = some (.slice pt.a5 2 pt.c5)
  q0 : w.cell? ⟨q, 0, none⟩ = some (.int .i64 1)
  q1 : w.cell? ⟨q, 1, none⟩ = some (.int .i64 2)
  r1 : RowAt w pt.a1 pt.c1 4 (pt.ys.map fun y => ptrV y.p)
  r2 : RowAt w pt.a2 pt.c2 4 pt.ls
  r3 : RowAt w pt.a3 pt.c3 2 pt.ids
  r4 : RowAt w pt.a4 pt.c4 2 pt.iss
  r5 : RowAt w pt.a5 pt.c5 2 pt.acs
theorem RowAt.upd {w W : World} {a : Option Addr} {c n : Nat} {xs : List Value} (h : RowAt w a c n xs) (hu : Upd [] w W) : RowAt W a c n xs := by
  obtain ⟨g, h1, h2, h3, h4⟩ := h
  exact ⟨g, h1, h2, h3, fun j v hj => cell_upd hu (h4 j v hj)⟩
theorem PtAt.upd {w W : World} {pb q : Nat} {pt : Pt} (h : PtAt w pb q pt) (hu : Upd [] w W) : PtAt W pb q pt :=
  ⟨cell_upd hu h.p0, cell_upd hu h.p1, cell_upd hu h.p2, cell_upd hu h.p3, cell_upd hu h.p4, cell_upd hu h.q0, cell_upd hu h.q1, h.r1.upd hu, h.r2.upd hu, h.r3.upd hu, h.r4.upd hu, h.r5.upd hu⟩

def ptS (pb q : Nat) (pt : Pt) (ss : List Res) : List Res := segR pb 83 (ptCs pt 4 2 2 2) :: blk q cfgO :: (ptL pt 4 4 2 2 2 ++ ss)
/-- All that the rules look at. -/
def PtO (B : Nat) (w0 w : World) (pb q : Nat) (pt : Pt) (ss : List Res) : Prop := ∃ ys : List Cn, ys.map (·.p) = pt.ys.map (·.p) ∧ (∀ y ∈ ys, CnOk y) ∧ Own B w0 w (ys.map cnR ++ ptS pb q pt ss)

section
variable {B : Nat} {w0 w W W' : World} {ss rs : List Res} {pb q : Nat} {pt : Pt}

theorem PtO.upd (h : PtO B w0 W pb q pt ss) (hu : Upd [] W W') : PtO B w0 W' pb q pt ss := by
  obtain ⟨ys, h1, h2, h3⟩ := h
  exact ⟨ys, h1, h2, h3.upd0 hu⟩

theorem row_at {E n cap : Nat} {a : Option Addr} {xs : List Value} {rs : List Res} (h : Own B w0 W rs) (hm : ownR E 1 (.slice a n cap) n xs ∈ rs) (hn : 0 < n) : RowAt W a cap n xs := by
  have hr := (h.all _ hm).1
  have ho := ownR_owns hr
  rcases ho.2 with ⟨h1, h2⟩ | ⟨g, cap', cur, h1, _, _, h3, h4, _⟩
  · omega
  · simp only [Value.slice.injEq] at h1
    obtain ⟨rfl, -, rfl⟩ := h1
    refine ⟨g, rfl, h3, by simpa using ho.1, fun j v hj => ?_⟩
    obtain ⟨-, q2, -⟩ := segR_at (ownR_seg hr)
    exact (q2 j (List.getElem?_eq_some_iff.1 hj).1).trans hj

theorem pt_at (h : PtO B w0 W pb q pt ss) : PtAt W pb q pt := by
  obtain ⟨ys, -, -, h⟩ := h
  obtain ⟨-, q2, -⟩ := segR_at (h.all (segR pb 83 (ptCs pt 4 2 2 2)) (by simp [ptS])).1
  have hq := blk_out (h.all (blk q cfgO) (by simp [ptS])).1
  exact ⟨q2 0 (by simp), q2 1 (by simp), q2 2 (by simp), q2 3 (by simp), q2 4 (by simp), by rw [block_cell hq]; rfl, by rw [block_cell hq]; rfl,
    row_at (E := 86) h (by simp [ptS, ptL]) (by omega), row_at (E := 29) h (by simp [ptS, ptL]) (by omega), row_at (E := 3) h (by simp [ptS, ptL]) (by omega), row_at (E := 33) h (by simp [ptS, ptL]) (by omega), row_at (E := 29) h (by simp [ptS, ptL]) (by omega)⟩

theorem pt_logs (h : PtAt W pb q pt) (hk : PtOk pt 4 2) : LogsAt W pt := by
  obtain ⟨g, h1, h2, h3, h4⟩ := h.r2
  exact ⟨g, h1, h2, h3, h4, hk.ls⟩

/-- One of the nodes. -/
theorem pt_pick (h : PtO B w0 W pb q pt ss) {k p : Nat} (hk : (pt.ys.map (·.p))[k]? = some p) : ∃ rest, CnAt B w0 W p rest ∧ ∀ w', CnAt B w0 w' p rest → PtO B w0 w' pb q pt ss := by
  obtain ⟨ys, h1, h2, h3⟩ := h
  have hkl : k < ys.length := by
    have := (List.getElem?_eq_some_iff.1 hk).1
    rw [← h1] at this
    simpa using this
  have hp : ys[k].p = p := by
    rw [← h1] at hk
    simpa [hkl] using hk
  have h4 := Own.pick (f := cnR) (hd := []) h3 k hkl
  refine ⟨_, ⟨ys[k], hp, h2 _ (List.getElem_mem hkl), h4⟩, fun w' hc => ?_⟩
  obtain ⟨y, hy, hyk, h5⟩ := hc
  have h6 := Own.unpick (f := cnR) (hd := []) (x := y) (l := ys) k hkl h5
  refine ⟨ys.set k y, ?_, fun z hz => ?_, h6⟩
  · rw [← h1]
    apply List.ext_getElem?
    intro j
    rw [List.getElem?_map, List.getElem?_map, List.getElem?_set]
    by_cases hkj : k = j
    · subst hkj
      simp [hkl, hy, hp]
    · rw [if_neg hkj]
  · rcases List.mem_or_eq_of_mem_set hz with hz | rfl
    · exact h2 z hz
    · exact hyk

theorem c_follows (a : Option Addr) (c : Nat) (hq : W.cell? ⟨q, 1, none⟩ = some (.int .i64 2)) : Calls Tryz.prog 40 #[.slice a 0 c, ptrV q] W fun e w' => e = .returned (.bool true) ∧ Upd [] W w' := by
  go_enter Tryz.func40, Tryz.ntmps40
  go_wp2_with fail
  refine (follows_z 2 (by omega) (by omega) a c _).mono ?_
  rintro e w' ⟨rfl, hu⟩
  have HU := Lib.hid hu
  clear hu hq
  go_wp2_with fail
  go_ret
  exact ⟨rfl, HU.out⟩

theorem c_kept (a : Option Addr) (c : Nat) (h : PtAt W pb q pt) (hk : PtOk pt 4 2) : Calls Tryz.prog 44 #[.slice a 0 c, ptrV pb] W fun e w' => e = .returned (.bool true) ∧ Upd [] W w' := by
  obtain ⟨g, h1, h2, h3, h4⟩ := h.r5
  have p4 := h.p4
  rw [h1] at p4
  have HC := Lib.hid h4
  have HZ := Lib.hid hk.acs
  have HN := Lib.hid h3
  have hcI : (2 : Int) ≤ (pt.c5 : Int) := by omega
  clear h h1 h2 h3 h4 hk
  go_enter Tryz.func44, Tryz.ntmps44
  go_wp2_with fail
  clear p4
  go_loop [9] (fun n => ∃ k : Nat, k ≤ 2 ∧ n = .int .i64 k) (fun n => 2 - (intOf n).toNat)
  case atStart => exact ⟨0, by omega, rfl⟩
  case round =>
    obtain ⟨k, hk, rfl⟩ := hrel
    by_cases hlt : k < 2
    · have hkI : (k : Int) < 2 := by omega
      have hk0 : (0 : Int) ≤ (k : Int) := by omega
      obtain ⟨v, hv⟩ : ∃ v, pt.acs[k]? = some v := ⟨_, List.getElem?_eq_getElem (by rw [HN.out]; exact hlt)⟩
      obtain ⟨a', c', rfl, -⟩ := HZ.out v (List.mem_of_getElem? hv)
      have ck := HC.out k _ hv
      clear hv
      go_wp2_with fail
      refine (kept_z _ _ _ _).mono ?_
      rintro e w2 ⟨rfl, rfl⟩
      clear ck
      go_wp2_with fail
      go_round
      case rel => exact ⟨k + 1, by omega, by go_num⟩
      case measure => simp [intOf]; omega
    · have hkI : decide ((k : Int) < 2) = false := by simp; omega
      go_wp2_with fail
      go_ret
      exact ⟨rfl, Upd.refl _ _⟩

theorem c_given (a : Option Addr) (c : Nat) (h : PtAt W pb q pt) (hk : PtOk pt 4 2) : Calls Tryz.prog 46 #[.slice a 0 c, ptrV pb] W fun e w' => e = .returned (.bool true) ∧ Upd [] W w' := by
  obtain ⟨g, h1, h2, h3, h4⟩ := h.r3
  obtain ⟨g', h1', h2', h3', h4'⟩ := h.r4
  have p2 := h.p2
  have p3 := h.p3
  rw [h1] at p2
  rw [h1'] at p3
  have HC := Lib.hid h4
  have HC' := Lib.hid h4'
  have HZ := Lib.hid hk.iss
  have HI := Lib.hid hk.ids
  have HN := Lib.hid h3
  have HN' := Lib.hid h3'
  have hcI : (2 : Int) ≤ (pt.c3 : Int) := by omega
  have hcI' : (2 : Int) ≤ (pt.c4 : Int) := by omega
  clear h h1 h2 h3 h4 hk h1' h2' h3' h4'
  go_enter Tryz.func46, Tryz.ntmps46
  go_wp2_with fail
  clear p2
  go_loop [9] (fun n => ∃ k : Nat, k ≤ 2 ∧ n = .int .i64 k) (fun n => 2 - (intOf n).toNat)
  case atStart => exact ⟨0, by omega, rfl⟩
  case round =>
    obtain ⟨k, hk, rfl⟩ := hrel
    by_cases hlt : k < 2
    · have hkI : (k : Int) < 2 := by omega
      have hk0 : (0 : Int) ≤ (k : Int) := by omega
      have hid : pt.ids[k]? = some (.int .i64 (k : Int)) := by rw [HI.out]; simp [hlt]
      have ci := HC.out k _ hid
      obtain ⟨v, hv⟩ : ∃ v, pt.iss[k]? = some v := ⟨_, List.getElem?_eq_getElem (by rw [HN'.out]; exact hlt)⟩
      have hz := HZ.out v (List.mem_of_getElem? hv)
      have ck := HC'.out k _ hv
      obtain ⟨a', c', rfl, -⟩ := hz
      clear hv hid
      go_wp2_with fail
      refine (given_z _ _ _ _ _).mono ?_
      rintro e w2 ⟨rfl, rfl⟩
      clear ck ci
      go_wp2_with fail
      go_round
      case rel => exact ⟨k + 1, by omega, by go_num⟩
      case measure => simp [intOf]; omega
    · have hkI : decide ((k : Int) < 2) = false := by simp; omega
      go_wp2_with fail
      go_ret
      exact ⟨rfl, Upd.refl _ _⟩

end
end Go.Proofs.YtimdphlolmbhnaaGreat
