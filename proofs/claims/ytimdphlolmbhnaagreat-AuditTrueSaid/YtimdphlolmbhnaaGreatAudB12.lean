/- Parts of the proof, one behind the other. -/
import Derived.Test.YtimdphlolmbhnaaGreatAudB11

/- net: New, of the usual cluster of four. -/
namespace Go.Proofs.YtimdphlolmbhnaaGreat
open Go.RowKit Go.Heap

section
variable {B : Nat} {w0 w W W' : World} {ss rs : List Res}

theorem Tryz.infoIn : (Tryz.prog.info? 3).map (fun i => (i.zero, i.size, i.bytes)) = some (some (.int .i64 0), 1, 8) := by kernel_rfl
theorem Tryz.infoQu : (Tryz.prog.info? 167).map (fun i => (i.zero, i.size, i.bytes)) = some (some (.pointer none), 1, 8) := by kernel_rfl
theorem Tryz.infoQs : (Tryz.prog.info? 166).map (fun i => (i.zero, i.size, i.bytes)) = some (some (.slice none 0 0), 1, 24) := by kernel_rfl

/-- A net that is being made. -/
def NtMk (B : Nat) (w0 w : World) (p q k j : Nat) : Prop :=
  ∃ (a1 a2 : Option Addr) (c1 c2 : Nat) (xs ys : List Value), Own B w0 w [segR p 165 [.slice a1 k c1, .slice a2 j c2], ownR 3 1 (.slice a1 k c1) k xs, ownR 166 1 (.slice a2 j c2) j ys, blk q cfgO]
/-- A row of queues beside it. -/
def NtRow (B : Nat) (w0 w : World) (p q k j i : Nat) (v : Value) : Prop :=
  ∃ (a1 a2 a3 : Option Addr) (c1 c2 c3 : Nat) (xs ys zs : List Value), v = .slice a3 i c3 ∧ Own B w0 w [segR p 165 [.slice a1 k c1, .slice a2 j c2], ownR 3 1 (.slice a1 k c1) k xs, ownR 166 1 (.slice a2 j c2) j ys, blk q cfgO, ownR 167 1 (.slice a3 i c3) i zs]

theorem link_new0 (w : World) : Calls Tryz.prog 84 #[.int .i64 64] w fun e w' => ∃ p, e = .returned (.tuple #[.pointer (some ⟨p, 0, none⟩), .int .i64 0]) ∧ Upd [] w w' := by
  go_enter Tryz.func84, Tryz.ntmps84
  go_wp2
  go_ret2
  exact ⟨_, rfl, (Upd.refl _ _).alloc _⟩

set_option maxHeartbeats 4000000 in
set_option maxRecDepth 100000 in
theorem net_new (W : World) :
    Calls Tryz.prog 60 #[cfgV] W fun e w' => ∃ p, e = .returned (.tuple #[.pointer (some ⟨p, 0, none⟩), .int .i64 0]) ∧ Upd [] W w' := by
  have H := Lib.hid (own_start W)
  go_enter Tryz.func60, Tryz.ntmps60
  go_wp2_with fail
  have HB := Lib.hid (show W.heap.size = W.heap.size from rfl)
  have H1 := Lib.hid (H.out.box cfgO)
  clear H
  generalize hq : W.heap.size = q at *
  have HQ := Lib.hid hq
  clear hq
  generalize W.alloc (.cells cfgCs 57) = w1 at *
  refine (cvalid _).mono ?_
  rintro e w2 ⟨rfl, hu⟩
  have h2 := H1.out.upd0 hu
  have H2 := Lib.hid (h2.box (.cells #[nilS, nilS] 165 (0, 0)))
  clear hu h2 H1
  go_wp2_with fail
  have hl := ((H2.out.row0 (E := 166) (sz := 1)).row0 (E := 3) (sz := 1))
  have h3 : NtMk q W (w2.alloc (.cells #[nilS, nilS] 165 (0, 0))) w2.heap.size q 0 0 := ⟨none, none, 0, 0, [], [], own_toSeg (hl.perm (by exact List.perm_middle (l₁ := [_, _]))) rfl⟩
  have H3 := Lib.hid h3
  clear hl h3 H2
  generalize w2.heap.size = p at *
  generalize w2.alloc (.cells #[nilS, nilS] 165 (0, 0)) = w3 at *
  obtain ⟨i0, hi, hz0, hz1, hz2⟩ := info_parts Tryz.infoIn
  obtain ⟨j0, hj, hy0, hy1, hy2⟩ := info_parts Tryz.infoQu
  obtain ⟨k0, hk, hx0, hx1, hx2⟩ := info_parts Tryz.infoQs
  go_loopw [5] (fun n wr => ∃ k : Nat, k ≤ 4 ∧ n = .int .i64 k ∧ Hid (NtMk q W wr p q k 0)) (fun n _ => 4 - (intOf n).toNat)
  case atStart => exact ⟨0, by omega, rfl, H3⟩
  case round =>
    clear H3
    obtain ⟨k, hk4, rfl, HM⟩ := hrel
    obtain ⟨a1, a2, c1, c2, xs, ys, ho⟩ := HM.out
    have HO := Lib.hid ho
    obtain ⟨q0, -⟩ := blk_at' ho 3 (b := q) (T := 57) (cs := cfgCs) rfl 0 (v := .int .i64 1) rfl
    clear ho HM
    go_wp2_with fail
    refine (nodes_one _).mono ?_
    rintro e w' ⟨rfl, rfl⟩
    by_cases hlt : k < 4
    · have hkI : (k : Int) < 4 := by omega
      obtain ⟨p0, z0⟩ := seg_at HO.out 0 rfl 0 rfl
      have hd := HO.out.alloc (.cells #[.int .i64 k] 3)
      have HD := Lib.hid hd
      have HW := Lib.hid (ownR_owns (hd.get 1 rfl))
      clear hd z0
      go_wp2_with (at_builtin; refine wpList_append_lies _ rfl (.tmp 26) (.tmp 28) 64 rfl 0 3 i0 (.int .i64 0) 1 8 Tryz.underlying64 hi hz0 hz1 hz2 rfl (by decide) _ k _ rfl HW.out ⟨wr.heap.size, 0, none⟩ 1 1 [.int .i64 k] rfl rfl ?c1 ?c2 (by decide) ?c3 ?c4 (Nat.zero_le _) _ rfl ?c6)
      case c1 => exact World.news_of_block (heap_alloc_new wr _)
      case c2 => exact one_one rfl
      case c3 => exact small_max (by omega)
      case c4 => omega
      case c6 =>
      intro g cap w5 hown hgrow hat hlt5
      have h6 := HD.out.growAt 1 rfl hgrow (by simpa using hat) hown
      have H6 := Lib.hid h6
      obtain ⟨p0, z0⟩ := seg_at h6 0 rfl 0 rfl
      clear hown hgrow hat hlt5 h6 HD HW
      go_wp2_with fail
      have h7 := H6.out.putAt 0 rfl 0 (.slice (some ⟨g, 0, none⟩) (k + 1) cap)
      have HZ : Hid (NtMk q W (w5.setCell ⟨p, 0, none⟩ (.slice (some ⟨g, 0, none⟩) (k + 1) cap)) p q (k + 1) 0) := Lib.hid ⟨_, _, _, _, _, _, h7⟩
      clear h7 H6 p0 z0
      go_roundw
      case rel => exact ⟨k + 1, by omega, by go_num, HZ⟩
      case measure => simp [intOf]; omega
    · have hk2 : k = 4 := by omega
      have hkI : decide ((k : Int) < 4) = false := by simp; omega
      subst hk2
      rw [show ((4 : Nat) : Int) = 4 from rfl]
      have HZ : Hid (NtMk q W wr p q (4 + 0) 0) := Lib.hid ⟨_, _, _, _, _, _, HO.out⟩
      clear HO q0
      go_wp2_with fail
      go_loopw [6] (fun n wr => ∃ k : Nat, k ≤ 2 ∧ n = .int .i64 k ∧ Hid (NtMk q W wr p q (4 + k) 0)) (fun n _ => 2 - (intOf n).toNat)
      case atStart => exact ⟨0, by omega, rfl, HZ⟩
      case round =>
        clear HZ
        obtain ⟨k, hk4, rfl, HM⟩ := hrel
        obtain ⟨a1, a2, c1, c2, xs, ys, ho⟩ := HM.out
        have HO := Lib.hid ho
        obtain ⟨q1, -⟩ := blk_at' ho 3 (b := q) (T := 57) (cs := cfgCs) rfl 1 (v := .int .i64 2) rfl
        clear ho HM
        by_cases hlt : k < 2
        · have hkI : (k : Int) < 2 := by omega
          obtain ⟨p0, z0⟩ := seg_at HO.out 0 rfl 0 rfl
          have hd := HO.out.alloc (.cells #[.int .i64 (100 + (k : Int))] 3)
          have HD := Lib.hid hd
          have HW := Lib.hid (ownR_owns (hd.get 1 rfl))
          clear hd z0
          go_wp2_with (at_builtin; refine wpList_append_lies _ rfl (.tmp 42) (.tmp 45) 64 rfl 0 3 i0 (.int .i64 0) 1 8 Tryz.underlying64 hi hz0 hz1 hz2 rfl (by decide) _ (4 + k) _ rfl HW.out ⟨wr.heap.size, 0, none⟩ 1 1 [.int .i64 (100 + (k : Int))] rfl rfl ?c1 ?c2 (by decide) ?c3 ?c4 (Nat.zero_le _) _ rfl ?c6)
          case c1 => exact World.news_of_block (heap_alloc_new wr _)
          case c2 => exact one_one rfl
          case c3 => exact small_max (by omega)
          case c4 => omega
          case c6 =>
          intro g cap w5 hown hgrow hat hlt5
          have h6 := HD.out.growAt 1 rfl hgrow (by simpa using hat) hown
          have H6 := Lib.hid h6
          obtain ⟨p0, z0⟩ := seg_at h6 0 rfl 0 rfl
          clear hown hgrow hat hlt5 h6 HD HW
          go_wp2_with fail
          have h7 := H6.out.putAt 0 rfl 0 (.slice (some ⟨g, 0, none⟩) (4 + k + 1) cap)
          have HZ : Hid (NtMk q W (w5.setCell ⟨p, 0, none⟩ (.slice (some ⟨g, 0, none⟩) (4 + k + 1) cap)) p q (4 + (k + 1)) 0) := Lib.hid ⟨_, _, _, _, _, _, h7⟩
          clear h7 H6 p0 z0
          go_roundw
          case rel => exact ⟨k + 1, by omega, by go_num, HZ⟩
          case measure => simp [intOf]; omega
        · have hk2 : k = 2 := by omega
          have hkI : decide ((k : Int) < 2) = false := by simp; omega
          subst hk2
          rw [show ((2 : Nat) : Int) = 2 from rfl]
          obtain ⟨p0, -⟩ := seg_at HO.out 0 rfl 0 (v := .slice a1 6 c1) rfl
          have HZ : Hid (NtMk q W wr p q 6 0) := Lib.hid ⟨_, _, _, _, _, _, HO.out⟩
          clear HO
          go_wp2_with fail
          clear p0 q1
          go_loopw [54] (fun n wr => ∃ k : Nat, k ≤ 6 ∧ n = .int .i64 k ∧ Hid (NtMk q W wr p q 6 k)) (fun n _ => 6 - (intOf n).toNat)
          case atStart => exact ⟨0, by omega, rfl, HZ⟩
          case round =>
            clear HZ
            obtain ⟨k, hk4, rfl, HM⟩ := hrel
            obtain ⟨a1, a2, c1, c2, xs, ys, ho⟩ := HM.out
            have HO := Lib.hid ho
            obtain ⟨p0, -⟩ := seg_at ho 0 rfl 0 (v := .slice a1 6 c1) rfl
            clear ho HM
            by_cases hlt : k < 6
            · have hkI : (k : Int) < 6 := by omega
              have HZ : Hid (NtRow q W wr p q 6 k 0 nilS) := Lib.hid ⟨a1, a2, none, c1, c2, 0, xs, ys, [], rfl, (HO.out.row0 (E := 167) (sz := 1)).perm (List.perm_append_comm (l₁ := [_]) (l₂ := [_, _, _, _]))⟩
              clear HO
              go_wp2_with fail
              clear p0
              obtain ⟨wo, rfl⟩ : ∃ wo : World, wo = wr := ⟨_, rfl⟩
              go_loopw [7, 61] (fun v n wr => ∃ i : Nat, i ≤ 6 ∧ n = .int .i64 i ∧ Hid (NtRow q W wr p q 6 k i v)) (fun _ n _ => 6 - (intOf n).toNat)
              case atStart => exact ⟨0, by omega, rfl, HZ⟩
              case round =>
                clear HZ
                obtain ⟨i, hi4, rfl, HM⟩ := hrel
                obtain ⟨a1, a2, a3, c1, c2, c3, xs, ys, zs, rfl, ho⟩ := HM.out
                have HO := Lib.hid ho
                clear ho HM
                by_cases hli : i < 6
                · have hiI : (i : Int) < 6 := by omega
                  obtain ⟨q4, -⟩ := blk_at' HO.out 3 (b := q) (T := 57) (cs := cfgCs) rfl 4 (v := .int .i64 64) rfl
                  go_wp2_with fail
                  refine (link_new0 _).mono ?_
                  rintro e w5 ⟨lp, rfl, hu⟩
                  have h5 := HO.out.upd0 hu
                  have hd := h5.alloc (.cells #[ptrV lp] 167)
                  have HD := Lib.hid hd
                  have HW := Lib.hid (ownR_owns (hd.get 4 rfl))
                  clear hd h5 hu HO q4
                  go_wp2_with (at_builtin; refine wpList_append_lies _ rfl (.tmp 69) (.tmp 71) 166 rfl 0 167 j0 (.pointer none) 1 8 Tryz.underlying166 hj hy0 hy1 hy2 rfl (by decide) _ i _ rfl HW.out ⟨w5.heap.size, 0, none⟩ 1 1 [ptrV lp] rfl rfl ?c1 ?c2 (by decide) ?c3 ?c4 (Nat.zero_le _) _ rfl ?c6)
                  case c1 => exact World.news_of_block (heap_alloc_new w5 _)
                  case c2 => exact one_one rfl
                  case c3 => exact small_max (by omega)
                  case c4 => omega
                  case c6 =>
                  intro g cap w6 hown hgrow hat hlt5
                  have h6 := HD.out.growAt 4 rfl hgrow (by simpa using hat) hown
                  have HZ : Hid (NtRow q W w6 p q 6 k (i + 1) (.slice (some ⟨g, 0, none⟩) (i + 1) cap)) := Lib.hid ⟨_, _, _, _, _, _, _, _, _, rfl, h6⟩
                  clear hown hgrow hat hlt5 h6 HD HW
                  go_wp2_with fail
                  go_roundw
                  case rel => exact ⟨i + 1, by omega, by go_num, HZ⟩
                  case measure => simp [intOf]; omega
                · have hi6 : i = 6 := by omega
                  have hiI : decide ((i : Int) < 6) = false := by simp; omega
                  subst hi6
                  obtain ⟨p1, -⟩ := seg_at HO.out 0 rfl 1 (v := .slice a2 k c2) rfl
                  have hd := HO.out.alloc (.cells #[.slice a3 6 c3] 166)
                  have HD := Lib.hid hd
                  have HW := Lib.hid (ownR_owns (hd.get 2 rfl))
                  clear hd HO
                  go_wp2_with (at_builtin; refine wpList_append_lies _ rfl (.tmp 78) (.tmp 80) 163 rfl 0 166 k0 (.slice none 0 0) 1 24 Tryz.underlying163 hk hx0 hx1 hx2 rfl (by decide) _ k _ rfl HW.out ⟨wr.heap.size, 0, none⟩ 1 1 [.slice a3 6 c3] rfl rfl ?c1 ?c2 (by decide) ?c3 ?c4 (Nat.zero_le _) _ rfl ?c6)
                  case c1 => exact World.news_of_block (heap_alloc_new wr _)
                  case c2 => exact one_one rfl
                  case c3 => exact small_max (by omega)
                  case c4 => omega
                  case c6 =>
                  intro g cap w6 hown hgrow hat hlt5
                  have h6 := HD.out.growAt 2 rfl hgrow (by simpa using hat) hown
                  have H6 := Lib.hid h6
                  obtain ⟨p1, z1⟩ := seg_at h6 0 rfl 1 rfl
                  clear hown hgrow hat hlt5 h6 HD HW
                  go_wp2_with fail
                  have h7 := (H6.out.putAt 0 rfl 1 (.slice (some ⟨g, 0, none⟩) (k + 1) cap)).dropAt 4 (by simp)
                  have HZ : Hid (NtMk q W (w6.setCell ⟨p, 1, none⟩ (.slice (some ⟨g, 0, none⟩) (k + 1) cap)) p q 6 (k + 1)) := Lib.hid ⟨_, _, _, _, _, _, h7⟩
                  clear h7 H6 p1 z1
                  go_roundw
                  case rel => exact ⟨k + 1, by omega, by go_num, HZ⟩
                  case measure => simp [intOf]; omega
            · have hk2 : k = 6 := by omega
              have hkI : decide ((k : Int) < 6) = false := by simp; omega
              subst hk2
              go_wp2_with fail
              go_ret2
              exact ⟨p, rfl, Upd.of_below (by rw [HQ.out]; exact HO.out.below)⟩

end
end Go.Proofs.YtimdphlolmbhnaaGreat

/- cluster: New, of the usual cluster of four without faulty parties. -/
namespace Go.Proofs.YtimdphlolmbhnaaGreat
open Go.RowKit Go.Heap

/-- A client. -/
structure Ck where
  p : Nat
  id : Int
  t : Nat
abbrev crCs (fv : Value) (nt : Nat) (wv v4 v5 : Value) : List Value := [.int .i64 1, .int .i64 2, .int .i64 2, .int .i64 4, .int .i64 64, .int .i64 8, .int .i64 8, .int .i64 8, .int .i64 1, .int .i64 2, .int .i64 12, .int .i64 8, .int .i64 6, .int .i64 2, .int .i64 6,
  fv, ptrV nt, wv, v4, v5]
/-- A cluster. -/
structure Cr where
  p : Nat
  nt : Nat
  m : Nat
  fv : Value
  wv : Value
  a4 : Option Addr
  c4 : Nat
  a5 : Option Addr
  c5 : Nat
  xs : List Nd
  cs : List Ck
def ckR (nt : Nat) (c : Ck) : List Res := [segR c.p 198 (clCs c.id (ptrV nt) (ptrV c.t)), blk c.t clockO]
def crHd (x : Cr) (n k : Nat) : List Res := [segR x.p 107 (crCs x.fv x.nt x.wv (.slice x.a4 n x.c4) (.slice x.a5 k x.c5)), ownR 86 1 (.slice x.a4 n x.c4) n (x.xs.map fun y => ptrV y.p), ownR 112 1 (.slice x.a5 k x.c5) k (x.cs.map fun y => ptrV y.p), blk x.nt (noO x.m), blk x.m mpO]
def crL (x : Cr) : List Res := crHd x 4 2 ++ (x.xs.map nodeR ++ x.cs.flatMap (ckR x.nt))
structure CrOk (x : Cr) (n k : Nat) : Prop where
  xn : x.xs.length = n
  cn : x.cs.length = k
  xs : ∀ y ∈ x.xs, NdOk y

/-- A cluster that is being made. -/
def CrMk (B : Nat) (w0 w : World) (p q n k : Nat) (ss : List Res) : Prop :=
  ∃ x : Cr, x.p = p ∧ CrOk x n k ∧ Own B w0 w (blk q cfgO :: (crHd x n k ++ (x.xs.map nodeR ++ (x.cs.flatMap (ckR x.nt) ++ ss))))

section
variable {B : Nat} {w0 w W W' : World} {ss rs : List Res}

theorem Tryz.infoNp : (Tryz.prog.info? 86).map (fun i => (i.zero, i.size, i.bytes)) = some (some (.pointer none), 1, 8) := by kernel_rfl
theorem Tryz.infoCp : (Tryz.prog.info? 112).map (fun i => (i.zero, i.size, i.bytes)) = some (some (.pointer none), 1, 8) := by kernel_rfl

theorem in_nil (n : Int) (w : World) : Calls Tryz.prog 58 #[.slice none 0 0, .int .i64 n] w fun e w' => e = .returned (.bool false) ∧ w = w' := by
  go_enter Tryz.func58, Tryz.ntmps58
  go_wp2_with fail
  go_loop [9] (fun n => n = .int .i64 0) (fun _ => 0)
  case atStart => rfl
  case round =>
    subst hrel
    go_wp2_with fail
    go_ret
    exact ⟨rfl, rfl⟩

theorem perm_in (r : Res) (a b c : List Res) : (r :: (a ++ (b ++ c))).Perm (a ++ (b ++ ([r] ++ c))) := by
  have h1 := List.perm_append_comm_assoc [r] a (b ++ c)
  have h2 := List.Perm.append_left a (List.perm_append_comm_assoc [r] b c)
  exact h1.trans h2

theorem small_8 {k : Nat} (h : k ≤ 1000) : (k + 1) * 8 ≤ 140737488355328 := by omega
theorem two_in (r1 r2 : Res) (a b c d : List Res) : (r1 :: r2 :: (a ++ (b ++ (c ++ d)))).Perm (a ++ (b ++ ((c ++ [r1, r2]) ++ d))) := by
  have h1 := List.perm_append_comm_assoc [r1, r2] (a ++ (b ++ c)) d
  simp only [List.append_assoc, List.cons_append, List.nil_append] at h1 ⊢
  exact h1

set_option maxHeartbeats 4000000 in
set_option maxRecDepth 100000 in
theorem cluster_new (h : Own B w0 W ss) :
    Calls Tryz.prog 33 #[cfgV, .slice none 0 0] W fun e w' => ∃ x : Cr, e = .returned (.tuple #[.pointer (some ⟨x.p, 0, none⟩), .int .i64 0]) ∧ CrOk x 4 2 ∧ Own B w0 w' (crL x ++ ss) := by
  have H := Lib.hid h
  clear h
  go_enter Tryz.func33, Tryz.ntmps33
  go_wp2_with fail
  have hb := heap_alloc_new W (.cells cfgCs 57)
  have H1 := Lib.hid (H.out.box cfgO)
  generalize hq : W.heap.size = q at *
  generalize W.alloc (.cells cfgCs 57) = w1 at *
  refine (cvalid _).mono ?_
  rintro e w2 ⟨rfl, hu⟩
  have H2 := Lib.hid (H1.out.upd0 hu)
  have HR := Lib.hid (range_upd hu (range_blk hb))
  clear hu hb H1 H
  go_wp2_with fail
  go_loop [6, 19] (fun m n => m = .int .i64 0 ∧ n = .int .i64 0) (fun _ _ => 0)
  case atStart => exact ⟨rfl, rfl⟩
  case round =>
    obtain ⟨rfl, rfl⟩ := hrel
    have q0 := range_get HR.out 0 rfl
    go_upto_region 14 with fail
    obtain ⟨i0, hi, hz0, hz1, hz2⟩ := info_parts Tryz.infoIn
    have hr : w2.drew.rangeAt q 0 cfgCs.toList := HR.out
    refine Held.wp_held [(q, 0, cfgCs.toList)] [(0, 0)] [] [(3, true), (1, true)] (by kernel_rfl) (by kernel_rfl) ⟨Held.HeldAt.of hr, trivial⟩ ?_
    simp only [Held.cutAt, Held.walk, List.take_succ_cons, List.take_zero, List.drop_succ_cons, List.drop_zero]
    have d0 : CfgAt w2.drew q := cfg_range hr
    have HD := Lib.hid d0
    go_wp2_with (at_builtin; refine wpList_fresh rfl (.tmp 45) 64 rfl 3 i0 (.int .i64 0) 1 8 Tryz.underlying64 hi hz0 hz1 hz2 rfl (by decide) _ _ _ rfl (Reads.nil _ _) (by simp) (by decide) ?_)
    intro fv w3 ho hu
    obtain ⟨fa, fc, rfl⟩ := row_shape ho
    have H3 := Lib.hid (H2.out.drew.upd0 hu)
    have HR3 := Lib.hid (range_upd hu hr)
    clear d0 ho hu hr H2 HR HD q0
    go_wp2_with fail
    refine ⟨⟨Held.HeldAt.of HR3.out, trivial⟩, ?_⟩
    have HC := Lib.hid (notary_new H3.out)
    go_wp2_with fail
    refine HC.out.mono ?_
    rintro e w4 ⟨nt, m, rfl, h4⟩
    have H4 := Lib.hid h4
    have HR4 := Lib.hid (range_blk (h4.blkAt 2 (b := q) (o := cfgO) rfl))
    clear HC h4 H3 HR3
    go_wp2_with fail
    refine ⟨⟨Held.HeldAt.of HR4.out, trivial⟩, ?_⟩
    go_wp2_with fail
    refine ⟨trivial, by rfl, ⟨⟨rfl, .inr ⟨by kernel_rfl, by kernel_rfl⟩⟩, trivial⟩, ?_⟩
    have H5 := Lib.hid (own_toSeg (T := 107) (cs := (crCs (.slice fa 0 fc) nt nilP nilS nilS).toArray) (H4.out.box _) rfl)
    go_upto_region 15 with fail
    clear H4 HR4
    generalize w4.heap.size = p at *
    generalize w4.alloc _ = w5 at *
    have d0 : CfgAt w5 q := cfg_range (range_blk (H5.out.blkAt 3 (b := q) (o := cfgO) rfl))
    go_wp2_with fail
    clear d0
    refine (net_new _).mono ?_
    rintro e w6 ⟨nw, rfl, hu⟩
    have H6 := Lib.hid (H5.out.upd0 hu)
    obtain ⟨p17, z17⟩ := seg_at H6.out 0 rfl 17 rfl
    clear hu H5
    go_upto_region 16 with fail
    have H7 := Lib.hid (H6.out.putAt 0 rfl 17 (ptrV nw))
    clear H6 p17 z17
    generalize w6.setCell ⟨p, 17, none⟩ (ptrV nw) = w7 at *
    have hl := ((H7.out.row0 (E := 112) (sz := 1)).row0 (E := 86) (sz := 1))
    have hl2 := ((((((hl.bring 4 rfl).bring 4 rfl).bring 3 rfl).bring 3 rfl).bring 4 rfl).bring 5 rfl)
    have HL : Hid (CrMk B w0 w7 p q 0 0 ss) := Lib.hid ⟨⟨p, nt, m, .slice fa 0 fc, ptrV nw, none, 0, none, 0, [], []⟩, rfl, ⟨rfl, rfl, by simp⟩, hl2⟩
    clear hl hl2 H7
    obtain ⟨n0, hn, hx0, hx1, hx2⟩ := info_parts Tryz.infoNp
    obtain ⟨c0, hc, hy0, hy1, hy2⟩ := info_parts Tryz.infoCp
    go_wp2_with fail
    go_loopw [10] (fun n wr => ∃ k : Nat, k ≤ 4 ∧ n = .int .i64 k ∧ Hid (CrMk B w0 wr p q k 0 ss)) (fun n _ => 4 - (intOf n).toNat)
    case atStart => exact ⟨0, by omega, rfl, HL⟩
    case round =>
      clear HL
      obtain ⟨k, hk4, rfl, HM⟩ := hrel
      obtain ⟨x, hxp, hok, ho⟩ := HM.out
      obtain ⟨xp, xnt, xm, xfv, xwv, a4, c4, a5, c5, xs, cs⟩ := x
      have hxp : xp = p := hxp
      subst hxp
      have HOK := Lib.hid hok
      have HO := Lib.hid ho
      clear ho HM hok
      obtain ⟨q0, -⟩ := blk_at' HO.out 0 (b := q) (T := 57) (cs := cfgCs) rfl 0 (v := .int .i64 1) rfl
      go_wp2_with fail
      refine (nodes_one _).mono ?_
      rintro e w' ⟨rfl, rfl⟩
      by_cases hlt : k < 4
      · have hkI : (k : Int) < 4 := by omega
        clear q0
        go_wp2_with fail
        refine (in_nil _ _).mono ?_
        rintro e w' ⟨rfl, rfl⟩
        have hD := HO.out.drew
        have d0 : CfgAt wr.drew q := cfg_range (range_blk (hD.blkAt 0 (b := q) (o := cfgO) rfl))
        obtain ⟨p16, -⟩ := seg_at hD 1 (b := xp) rfl 16 (v := ptrV xnt) rfl
        have HC := Lib.hid (node_new (k : Int) xnt (by omega) (by omega) hD)
        clear hD
        go_upto_region 21 with fail
        refine Mix.wp_text2 (by kernel_rfl) (by kernel_rfl) ?_
        go_wp2_with fail
        clear d0 p16
        refine HC.out.mono ?_
        rintro e w8 ⟨y, rfl, hyi, hyn, hyk, h8⟩
        have H8 := Lib.hid h8
        have HY := Lib.hid hyk
        clear h8 hyi hyn hyk HC HO
        go_wp2_with fail
        refine ⟨by rfl, ?_⟩
        obtain ⟨p18, -⟩ := seg_at H8.out 2 (b := xp) rfl 18 (v := .slice a4 k c4) rfl
        have hd := H8.out.alloc (.cells #[ptrV y.p] 86)
        have HD := Lib.hid hd
        have HW := Lib.hid (ownR_owns (hd.get 3 rfl))
        clear hd
        have HNW : Hid (∀ j u, [ptrV y.p][j]? = some u → (w8.alloc (.cells #[ptrV y.p] 86 (0, 0))).cell? ((⟨w8.heap.size, 0, none⟩ : Addr).add j) = some u) := Lib.hid (World.news_of_block (heap_alloc_new w8 (.cells #[ptrV y.p] 86 (0, 0))))
        have HON := Lib.hid (one_one (v := ptrV y.p) rfl)
        have HMX := Lib.hid (small_max (k := k) (by omega))
        have HM4 := Lib.hid (small_8 (k := k) (by omega))
        go_wp2_with (at_builtin; refine wpList_append_lies _ rfl (.tmp 83) (.tmp 85) 81 rfl 0 86 n0 (.pointer none) 1 8 Tryz.underlying81 hn hx0 hx1 hx2 rfl (by decide) _ k _ rfl HW.out ⟨w8.heap.size, 0, none⟩ 1 1 [ptrV y.p] rfl rfl HNW.out HON.out (by decide) HMX.out HM4.out (Nat.zero_le _) _ rfl ?_)
        intro g cap w9 hown hgrow hat hlt5
        have h6 := HD.out.growAt 3 rfl hgrow (by simpa using hat) hown
        have H6 := Lib.hid h6
        obtain ⟨p18, z18⟩ := seg_at h6 2 (b := xp) rfl 18 rfl
        clear hown hgrow hat hlt5 h6 HD HW H8 HNW HON HMX HM4
        go_wp2_with fail
        have h7 := H6.out.putAt 2 rfl 18 (.slice (some ⟨g, 0, none⟩) (k + 1) cap)
        have HZ : Hid (CrMk B w0 (w9.setCell ⟨xp, 18, none⟩ (.slice (some ⟨g, 0, none⟩) (k + 1) cap)) xp q (k + 1) 0 ss) := Lib.hid ⟨⟨xp, xnt, xm, xfv, xwv, some ⟨g, 0, none⟩, cap, a5, c5, xs ++ [y], cs⟩, rfl, ⟨by have := HOK.out.xn; simp at this ⊢; exact this, HOK.out.cn, fun z hz => by
          rcases List.mem_append.1 hz with hz | hz
          · exact HOK.out.xs z hz
          · simp at hz; subst hz; exact HY.out⟩, by
          have h8 := h7.perm (perm_one (nodeR y) [_, _, _, _, _, _] (xs.map nodeR) _)
          simp only [crHd, List.map_append, List.map_cons, List.map_nil]
          exact h8⟩
        clear h7 H6 p18 z18
        go_roundw
        case rel => exact ⟨k + 1, by omega, by go_num, HZ⟩
        case measure => simp [intOf]; omega
      · have hk2 : k = 4 := by omega
        have hkI : decide ((k : Int) < 4) = false := by simp; omega
        subst hk2
        rw [show ((4 : Nat) : Int) = 4 from rfl]
        have HZ : Hid (CrMk B w0 wr xp q 4 0 ss) := Lib.hid ⟨_, rfl, HOK.out, HO.out⟩
        clear HO q0 HOK
        go_wp2_with fail
        go_loopw [12] (fun n wr => ∃ k : Nat, k ≤ 2 ∧ n = .int .i64 k ∧ Hid (CrMk B w0 wr xp q 4 k ss)) (fun n _ => 2 - (intOf n).toNat)
        case atStart => exact ⟨0, by omega, rfl, HZ⟩
        case round =>
          clear HZ
          obtain ⟨k, hk4, rfl, HM⟩ := hrel
          obtain ⟨x, hxp, hok, ho⟩ := HM.out
          obtain ⟨xp', xnt, xm, xfv, xwv, a4, c4, a5, c5, xs, cs⟩ := x
          have hxp : xp' = xp := hxp
          subst hxp
          have HOK := Lib.hid hok
          have HO := Lib.hid ho
          clear ho HM hok
          obtain ⟨q1, -⟩ := blk_at' HO.out 0 (b := q) (T := 57) (cs := cfgCs) rfl 1 (v := .int .i64 2) rfl
          by_cases hlt : k < 2
          · have hkI : (k : Int) < 2 := by omega
            go_wp2_with fail
            clear q1
            refine (in_nil _ _).mono ?_
            rintro e w' ⟨rfl, rfl⟩
            have hD := HO.out.drew
            have d0 : CfgAt wr.drew q := cfg_range (range_blk (hD.blkAt 0 (b := q) (o := cfgO) rfl))
            obtain ⟨p16, -⟩ := seg_at hD 1 (b := xp') rfl 16 (v := ptrV xnt) rfl
            have HC := Lib.hid (client_new (k : Int) xnt (by omega) (by omega) hD)
            clear hD
            go_upto_region 28 with fail
            refine Mix.wp_text2 (by kernel_rfl) (by kernel_rfl) ?_
            go_wp2_with fail
            clear d0 p16
            refine HC.out.mono ?_
            rintro e w8 ⟨yp, yt, rfl, h8⟩
            have H8 := Lib.hid h8
            clear h8 HC HO
            go_wp2_with fail
            refine ⟨by rfl, ?_⟩
            obtain ⟨p19, -⟩ := seg_at H8.out 3 (b := xp') rfl 19 (v := .slice a5 k c5) rfl
            have hd := H8.out.alloc (.cells #[ptrV yp] 112)
            have HD := Lib.hid hd
            have HW := Lib.hid (ownR_owns (hd.get 5 rfl))
            clear hd
            have HNW : Hid (∀ j u, [ptrV yp][j]? = some u → (w8.alloc (.cells #[ptrV yp] 112 (0, 0))).cell? ((⟨w8.heap.size, 0, none⟩ : Addr).add j) = some u) := Lib.hid (World.news_of_block (heap_alloc_new w8 (.cells #[ptrV yp] 112 (0, 0))))
            have HON := Lib.hid (one_one (v := ptrV yp) rfl)
            have HMX := Lib.hid (small_max (k := k) (by omega))
            have HM4 := Lib.hid (small_8 (k := k) (by omega))
            go_wp2_with (at_builtin; refine wpList_append_lies _ rfl (.tmp 114) (.tmp 116) 105 rfl 0 112 c0 (.pointer none) 1 8 Tryz.underlying105 hc hy0 hy1 hy2 rfl (by decide) _ k _ rfl HW.out ⟨w8.heap.size, 0, none⟩ 1 1 [ptrV yp] rfl rfl HNW.out HON.out (by decide) HMX.out HM4.out (Nat.zero_le _) _ rfl ?_)
            intro g cap w9 hown hgrow hat hlt5
            have h6 := HD.out.growAt 5 rfl hgrow (by simpa using hat) hown
            have H6 := Lib.hid h6
            obtain ⟨p19, z19⟩ := seg_at h6 3 (b := xp') rfl 19 rfl
            clear hown hgrow hat hlt5 h6 HD HW H8 HNW HON HMX HM4
            go_wp2_with fail
            have h7 := H6.out.putAt 3 rfl 19 (.slice (some ⟨g, 0, none⟩) (k + 1) cap)
            have HZ : Hid (CrMk B w0 (w9.setCell ⟨xp', 19, none⟩ (.slice (some ⟨g, 0, none⟩) (k + 1) cap)) xp' q 4 (k + 1) ss) := Lib.hid ⟨⟨xp', xnt, xm, xfv, xwv, a4, c4, some ⟨g, 0, none⟩, cap, xs, cs ++ [⟨yp, k, yt⟩]⟩, rfl, ⟨HOK.out.xn, by have := HOK.out.cn; simp at this ⊢; exact this, HOK.out.xs⟩, by
              have h8 := h7.perm (two_in _ _ [_, _, _, _, _, _] (xs.map nodeR) (cs.flatMap (ckR xnt)) ss)
              simp only [crHd, List.map_append, List.map_cons, List.map_nil, List.flatMap_append, List.flatMap_cons, List.flatMap_nil, List.append_nil]
              exact h8⟩
            clear h7 H6 p19 z19
            go_roundw
            case rel => exact ⟨k + 1, by omega, by go_num, HZ⟩
            case measure => simp [intOf]; omega
          · have hk2 : k = 2 := by omega
            have hkI : decide ((k : Int) < 2) = false := by simp; omega
            subst hk2
            go_wp2_with fail
            go_ret2
            refine ⟨⟨xp', xnt, xm, xfv, xwv, a4, c4, a5, c5, xs, cs⟩, rfl, HOK.out, ?_⟩
            have h9 := HO.out.drop
            simp only [crL, List.append_assoc]
            exact h9

end
end Go.Proofs.YtimdphlolmbhnaaGreat

/- What a new cluster tells: nodes, clients, ledgers, what is committed. -/
namespace Go.Proofs.YtimdphlolmbhnaaGreat
open Go.RowKit Go.Heap

section
variable {B : Nat} {w0 w W W' : World} {ss rs : List Res}

theorem at_append {α : Type} {a b : List α} {k n : Nat} {v : α} (hn : a.length = n) (h : b[k]? = some v) : (a ++ b)[n + k]? = some v := by
  subst hn
  rw [List.getElem?_append_right (by omega), Nat.add_sub_cancel_left]
  exact h
theorem at_append_left {α : Type} {a b : List α} {k : Nat} {v : α} (h : a[k]? = some v) : (a ++ b)[k]? = some v := by
  rw [List.getElem?_append_left (List.getElem?_eq_some_iff.1 h).1]
  exact h

theorem cr_node {x : Cr} {k : Nat} {y : Nd} (h : x.xs[k]? = some y) : (crL x ++ ss)[5 + k]? = some (nodeR y) := by
  unfold crL
  rw [List.append_assoc, List.append_assoc]
  exact at_append rfl (at_append_left (by simp [h]))
theorem ck_at {nt : Nat} : ∀ {l : List Ck} {k : Nat} {c : Ck} (zs : List Res), l[k]? = some c → (l.flatMap (ckR nt) ++ zs)[2 * k]? = some (segR c.p 198 (clCs c.id (ptrV nt) (ptrV c.t))) ∧ (l.flatMap (ckR nt) ++ zs)[2 * k + 1]? = some (blk c.t clockO)
  | [], k, r, _, h => by simp at h
  | q :: l, 0, r, _, h => by simp at h; subst h; exact ⟨rfl, rfl⟩
  | q :: l, k + 1, r, zs, h => by
    have := ck_at (nt := nt) zs (show l[k]? = some r by simpa using h)
    rw [show 2 * (k + 1) = 2 * k + 2 by omega]
    exact this
theorem cr_client {x : Cr} {k : Nat} {c : Ck} (h : x.cs[k]? = some c) : (crL x ++ ss)[5 + (x.xs.length + 2 * k)]? = some (segR c.p 198 (clCs c.id (ptrV x.nt) (ptrV c.t))) ∧ (crL x ++ ss)[5 + (x.xs.length + (2 * k + 1))]? = some (blk c.t clockO) := by
  obtain ⟨h1, h2⟩ := ck_at (nt := x.nt) ss h
  unfold crL
  rw [List.append_assoc, List.append_assoc]
  exact ⟨at_append rfl (at_append (by simp) h1), at_append rfl (at_append (by simp) h2)⟩

set_option maxHeartbeats 1600000 in
set_option maxRecDepth 100000 in
theorem cluster_node {x : Cr} (h : Own B w0 W (crL x ++ ss)) (hk : CrOk x 4 2) (k : Nat) (h4 : k < 4) :
    Calls Tryz.prog 70 #[.pointer (some ⟨x.p, 0, none⟩), .int .i64 k] W fun e w' => ∃ y : Cn, e = .returned (.tuple #[.pointer (some ⟨y.p, 0, none⟩), .bool true]) ∧ CnOk y ∧ Own B w0 w' (cnR y :: (crL x ++ ss)) := by
  obtain ⟨g, ha, hc1, hc2⟩ := row_some h 1 (E := 86) (n := 4) (cap := x.c4) (a := x.a4) rfl (by omega)
  obtain ⟨y, hy⟩ : ∃ y, x.xs[k]? = some y := ⟨_, List.getElem?_eq_getElem (by rw [hk.xn]; exact h4)⟩
  have hyk := hk.xs y (List.mem_of_getElem? hy)
  have hi : (k : Int) < 4 := by omega
  have hj : (0 : Int) ≤ (k : Int) := by omega
  have hcap : (4 : Int) ≤ (x.c4 : Int) := by omega
  have h1 : Own B w0 W (crL x ++ ss) := h
  obtain ⟨p16, -⟩ := seg_at h 0 (b := x.p) rfl 16 (v := ptrV x.nt) rfl
  have p18 : W.cell? ⟨x.p, 18, none⟩ = some (.slice (some ⟨g, 0, none⟩) 4 x.c4) := (seg_at h 0 (b := x.p) rfl 18 (v := .slice x.a4 4 x.c4) rfl).1.trans (by rw [ha])
  have gk : W.cell? ⟨g, k, none⟩ = some (ptrV y.p) := row_cell h 1 (E := 86) (n := 4) (cap := x.c4) (g := g) (by rw [← ha]; rfl) k (by simp [hy])
  have e16 : W.drew.cell? ⟨x.p, 16, none⟩ = some (ptrV x.nt) := p16
  have e18 : W.drew.cell? ⟨x.p, 18, none⟩ = some (.slice (some ⟨g, 0, none⟩) 4 x.c4) := p18
  have ek : W.drew.cell? ⟨g, k, none⟩ = some (ptrV y.p) := gk
  have HC := Lib.hid (notary_clone (h.drew.blkAt 3 (b := x.nt) (o := noO x.m) rfl) (h.drew.blkAt 4 (b := x.m) (o := mpO) rfl))
  have HI := Lib.hid (cr_node (ss := ss) hy)
  have HY := Lib.hid hyk
  have H := Lib.hid h
  clear h h1 hy hyk ha hc1 hc2 hk
  go_enter Tryz.func70, Tryz.ntmps70
  go_upto_region 3 with fail
  clear p16 p18 gk
  refine Held.wp_held [(x.p, 18, [.slice (some ⟨g, 0, none⟩) 4 x.c4]), (g, k, [ptrV y.p]), (x.p, 16, [ptrV x.nt])] [(3, 0), (6, 1), (10, 2)] [12] [(12, true)] (by kernel_rfl) (by kernel_rfl) ⟨⟨e18, trivial⟩, ⟨ek, trivial⟩, ⟨e16, trivial⟩, trivial⟩ ?_
  simp only [Held.cutAt, Held.walk, List.take_succ_cons, List.take_zero, List.drop_succ_cons, List.drop_zero]
  go_wp2_with fail
  refine HC.out.mono ?_
  rintro e w1 ⟨n, rfl, hu⟩
  have H1 := Lib.hid (H.out.drew.upd0 hu)
  obtain ⟨f18, fk, f16⟩ := And.intro (cell_upd hu e18) (And.intro (cell_upd hu ek) (cell_upd hu e16))
  clear hu HC H e18 ek e16
  go_wp2_with fail
  refine ⟨⟨⟨f18, trivial⟩, ⟨fk, trivial⟩, ⟨f16, trivial⟩, trivial⟩, ?_⟩
  have HC := Lib.hid (node_clone (H1.out.bring _ HI.out) HY.out n)
  go_wp2_with fail
  refine HC.out.mono ?_
  rintro e w2 ⟨z, rfl, hz, h2⟩
  have H3 := Lib.hid (Own.ret (hd := [cnR z]) _ HI.out h2)
  have HZ := Lib.hid hz
  clear h2 hz HC f18 fk f16
  go_wp2_with fail
  refine ⟨trivial, by rfl, ⟨⟨rfl, .inl ⟨by kernel_rfl, rfl⟩⟩, ⟨rfl, .inl ⟨by kernel_rfl, rfl⟩⟩, ⟨rfl, .inl ⟨by kernel_rfl, rfl⟩⟩, trivial⟩, ?_⟩
  go_wp2_with fail
  go_ret2
  exact ⟨z, rfl, HZ.out, H3.out⟩

set_option maxHeartbeats 1600000 in
set_option maxRecDepth 100000 in
theorem cluster_client {x : Cr} (h : Own B w0 W (crL x ++ ss)) (hk : CrOk x 4 2) (k : Nat) (h4 : k < 2) :
    Calls Tryz.prog 73 #[.pointer (some ⟨x.p, 0, none⟩), .int .i64 k] W fun e w' => ∃ y cs, e = .returned (.tuple #[.pointer (some ⟨y, 0, none⟩), .bool true]) ∧ CcCs cs ∧ Own W.heap.size W w' [segR y 198 cs] := by
  obtain ⟨g, ha, hc1, hc2⟩ := row_some h 2 (E := 112) (n := 2) (cap := x.c5) (a := x.a5) rfl (by omega)
  obtain ⟨y, hy⟩ : ∃ y, x.cs[k]? = some y := ⟨_, List.getElem?_eq_getElem (by rw [hk.cn]; exact h4)⟩
  have hi : (k : Int) < 2 := by omega
  have hj : (0 : Int) ≤ (k : Int) := by omega
  have hcap : (2 : Int) ≤ (x.c5 : Int) := by omega
  obtain ⟨p16, -⟩ := seg_at h 0 (b := x.p) rfl 16 (v := ptrV x.nt) rfl
  have p19 : W.cell? ⟨x.p, 19, none⟩ = some (.slice (some ⟨g, 0, none⟩) 2 x.c5) := (seg_at h 0 (b := x.p) rfl 19 (v := .slice x.a5 2 x.c5) rfl).1.trans (by rw [ha])
  have gk : W.cell? ⟨g, k, none⟩ = some (ptrV y.p) := row_cell h 2 (E := 112) (n := 2) (cap := x.c5) (g := g) (by rw [← ha]; rfl) k (by simp [hy])
  have e16 : W.drew.cell? ⟨x.p, 16, none⟩ = some (ptrV x.nt) := p16
  have e19 : W.drew.cell? ⟨x.p, 19, none⟩ = some (.slice (some ⟨g, 0, none⟩) 2 x.c5) := p19
  have ek : W.drew.cell? ⟨g, k, none⟩ = some (ptrV y.p) := gk
  have HC := Lib.hid (notary_clone (h.drew.blkAt 3 (b := x.nt) (o := noO x.m) rfl) (h.drew.blkAt 4 (b := x.m) (o := mpO) rfl))
  obtain ⟨i1, i2⟩ := cr_client (ss := ss) hy
  have HS := Lib.hid (range_seg (h.get _ i1))
  have HB := Lib.hid (h.blkAt _ i2)
  have HL := Lib.hid (block_lt (h.blkAt _ i2))
  clear h hy ha hc1 hc2 hk i1 i2
  go_enter Tryz.func73, Tryz.ntmps73
  go_upto_region 3 with fail
  clear p16 p19 gk
  refine Held.wp_held [(x.p, 19, [.slice (some ⟨g, 0, none⟩) 2 x.c5]), (g, k, [ptrV y.p]), (x.p, 16, [ptrV x.nt])] [(3, 0), (6, 1), (10, 2)] [12] [(12, true)] (by kernel_rfl) (by kernel_rfl) ⟨⟨e19, trivial⟩, ⟨ek, trivial⟩, ⟨e16, trivial⟩, trivial⟩ ?_
  simp only [Held.cutAt, Held.walk, List.take_succ_cons, List.take_zero, List.drop_succ_cons, List.drop_zero]
  go_wp2_with fail
  refine HC.out.mono ?_
  rintro e w1 ⟨n, rfl, hu⟩
  obtain ⟨f19, fk, f16⟩ := And.intro (cell_upd hu e19) (And.intro (cell_upd hu ek) (cell_upd hu e16))
  have HU := Lib.hid hu
  have HC := Lib.hid (client_clone (n := n) (range_upd hu (show W.drew.rangeAt y.p 0 _ from HS.out)) ((hu.block y.t HL.out (by simp)).trans HB.out))
  clear hu e19 ek e16
  go_wp2_with fail
  refine ⟨⟨⟨f19, trivial⟩, ⟨fk, trivial⟩, ⟨f16, trivial⟩, trivial⟩, ?_⟩
  clear f19 fk f16
  go_wp2_with fail
  refine HC.out.mono ?_
  rintro e w2 ⟨z, cs, rfl, hz, hu⟩
  have HZ := Lib.hid hz
  have HU2 := Lib.hid hu
  clear hz hu HC
  go_wp2_with fail
  refine ⟨trivial, by rfl, ⟨⟨rfl, .inl ⟨by kernel_rfl, rfl⟩⟩, ⟨rfl, .inl ⟨by kernel_rfl, rfl⟩⟩, ⟨rfl, .inl ⟨by kernel_rfl, rfl⟩⟩, trivial⟩, ?_⟩
  go_wp2_with fail
  go_ret2
  exact ⟨z, cs, rfl, HZ.out, own_and ((own_start W).upd0 ((Upd.refl _ _).drew.trans HU.out)) HU2.out⟩

set_option maxHeartbeats 1600000 in
set_option maxRecDepth 100000 in
theorem node_ledger {y : Cn} (h : Own B w0 W (cnR y :: ss)) (hk : CnOk y) :
    Calls Tryz.prog 71 #[.pointer (some ⟨y.p, 0, none⟩)] W fun e w' => ∃ z : Lg, e = .returned (.pointer (some ⟨z.p, 0, none⟩)) ∧ LgOk z ∧ z.lp = newL 2 ∧ Own B w0 w' (lgL z ++ (cnR y :: ss)) := by
  have ho : Own B w0 W (cnL y ++ ss) := h.open
  obtain ⟨c22, -⟩ := seg_at ho 0 (b := y.p) rfl 22 hk.c22
  have h1 : Own B w0 W ([segR y.p 184 y.cs, ownR 185 1 (.slice y.a1 2 y.c1) 2 (y.ys.map Ins.ptr)] ++ (lgL y.bk ++ (y.ys.map instR ++ ss))) := by
    simpa only [cnL, List.append_assoc, List.cons_append, List.nil_append] using ho
  have HC := Lib.hid (ledger_clone (own_back _ h1) hk.bk)
  have HLP := Lib.hid hk.lp
  clear h ho hk h1
  go_enter Tryz.func71, Tryz.ntmps71
  go_wp2_with fail
  refine HC.out.mono ?_
  rintro e w1 ⟨z, rfl, hz, hl, h2⟩
  have HZ := Lib.hid hz
  have HL := Lib.hid (hl.trans HLP.out)
  have h3 := h2.perm (List.Perm.append_left (lgL z) (List.perm_append_comm_assoc (lgL y.bk) [segR y.p 184 y.cs, ownR 185 1 (.slice y.a1 2 y.c1) 2 (y.ys.map Ins.ptr)] (y.ys.map instR ++ ss)))
  have h4 : Own B w0 w1 (cnL y ++ (lgL z ++ ss)) := by
    refine h3.perm ?_
    have q := List.perm_append_comm_assoc (lgL z) (cnL y) ss
    simpa only [cnL, List.append_assoc, List.cons_append, List.nil_append] using q
  have h5 : Own B w0 w1 (lgL z ++ ([cnR y] ++ ss)) := own_back [cnR y] (l := lgL z) (Own.shut h4)
  have H5 := Lib.hid h5
  clear hz hl h2 h3 h4 h5 HC
  go_wp2_with fail
  go_ret
  exact ⟨z, rfl, HZ.out, HL.out, H5.out⟩

end
end Go.Proofs.YtimdphlolmbhnaaGreat

/- audit over logs of nothing; what a new node has committed. -/
namespace Go.Proofs.YtimdphlolmbhnaaGreat
open Go.RowKit Go.Heap

section
variable {B : Nat} {w0 w W W' : World} {ss rs : List Res}

theorem prefix_z (a b : Option Addr) (c d : Nat) (n : Nat) (w : World) : Calls Tryz.prog 25 #[.slice a 0 c, .slice b n d] w fun e w' => e = .returned (.bool true) ∧ w = w' := by
  go_enter Tryz.func25, Tryz.ntmps25
  go_wp2_with fail
  go_loop [5] (fun n => n = .int .i64 0) (fun _ => 0)
  case atStart => rfl
  case round =>
    subst hrel
    go_wp2_with fail
    go_ret
    exact ⟨rfl, rfl⟩

theorem once_z (a : Option Addr) (c : Nat) (w : World) : Calls Tryz.prog 14 #[.slice a 0 c] w fun e w' => e = .returned (.bool true) ∧ w = w' := by
  go_enter Tryz.func14, Tryz.ntmps14
  go_wp2_with fail
  go_loop [9] (fun n => n = .int .i64 0) (fun _ => 0)
  case atStart => rfl
  case round =>
    subst hrel
    go_wp2_with fail
    go_ret
    exact ⟨rfl, rfl⟩

theorem given_z (a : Option Addr) (c : Nat) (k : Int) (v : Value) (w : World) : Calls Tryz.prog 13 #[.slice a 0 c, .int .i64 k, v] w fun e w' => e = .returned (.bool true) ∧ w = w' := by
  go_enter Tryz.func13, Tryz.ntmps13
  go_wp2_with fail
  go_loop [11] (fun n => n = .int .i64 0) (fun _ => 0)
  case atStart => rfl
  case round =>
    subst hrel
    go_wp2_with fail
    go_ret
    exact ⟨rfl, rfl⟩

theorem kept_z (v : Value) (a : Option Addr) (c : Nat) (w : World) : Calls Tryz.prog 12 #[v, .slice a 0 c] w fun e w' => e = .returned (.bool true) ∧ w = w' := by
  go_enter Tryz.func12, Tryz.ntmps12
  go_wp2_with fail
  go_loop [12] (fun n => n = .int .i64 0) (fun _ => 0)
  case atStart => rfl
  case round =>
    subst hrel
    go_wp2_with fail
    go_ret
    exact ⟨rfl, rfl⟩

theorem follows_z (n : Nat) (h1 : 1 ≤ n) (h4 : n ≤ 4) (a : Option Addr) (c : Nat) (w : World) : Calls Tryz.prog 18 #[.int .i64 n, .slice a 0 c] w fun e w' => e = .returned (.bool true) ∧ Upd [] w w' := by
  have HN := Lib.hid (ledger_new n h1 h4 (own_start w))
  clear h1 h4
  go_enter Tryz.func18, Tryz.ntmps18
  go_wp2_with fail
  refine HN.out.mono ?_
  rintro e w1 ⟨x, rfl, -, -, h⟩
  have HU := Lib.hid (upd_start h)
  clear h HN
  go_wp2_with fail
  go_loop [19] (fun n => n = .int .i64 0) (fun _ => 0)
  case atStart => rfl
  case round =>
    subst hrel
    go_wp2_with fail
    go_ret
    exact ⟨rfl, HU.out⟩

theorem new_committed (k seq : Int) : committedI (newI 1 k 4) seq = none := by
  unfold committedI plAt
  cases h : idx seq with
  | none => rfl
  | some j =>
    have hj := (idx_lt h).1
    have : (newI 1 k 4).l[j]? = some (emptyPl 1) := by
      show (List.replicate 16 (emptyPl 1))[j]? = _
      rw [List.getElem?_replicate, if_pos hj]
    simp [this, emptyPl]

def cnHd (y : Cn) : List Res := segR y.p 184 y.cs :: ownR 185 1 (.slice y.a1 2 y.c1) 2 (y.ys.map Ins.ptr) :: lgL y.bk
theorem cn_open {y : Cn} (h : Own B w0 W (cnR y :: ss)) : Own B w0 W (cnHd y ++ (y.ys.map instR ++ ss)) := by
  have h1 : Own B w0 W (cnL y ++ ss) := h.open
  simpa only [cnL, cnHd, List.append_assoc, List.cons_append] using h1
theorem cn_shut {y : Cn} (h : Own B w0 W (cnHd y ++ (y.ys.map instR ++ ss))) : Own B w0 W (cnR y :: ss) := by
  have h1 : Own B w0 W (cnL y ++ ss) := by simpa only [cnL, cnHd, List.append_assoc, List.cons_append] using h
  exact h1.shut

/-- A cloned node, wherever its parts lie. -/
def CnAt (B : Nat) (w0 w : World) (p : Nat) (ss : List Res) : Prop := ∃ y : Cn, y.p = p ∧ CnOk y ∧ Own B w0 w (cnR y :: ss)

theorem committed_at {p : Nat} (h : CnAt B w0 W p ss) (k : Nat) (hk2 : k < 2) (seq : Int) :
    ∃ g c i, W.cell? ⟨p, 18, none⟩ = some (.slice (some ⟨g, 0, none⟩) 2 c) ∧ (2 : Int) ≤ (c : Int) ∧ W.cell? ⟨g, k, none⟩ = some (ptrV i) ∧
      Calls Tryz.prog 100 #[ptrV i, .int .i64 seq] W fun e w' => ∃ x1 x2 x3 a1 n1 c1 a2 n2 c2, e = .returned (.tuple #[.agg #[.int .i64 x1, .int .i64 x2, .int .i64 x3, .slice a1 n1 c1, .slice a2 n2 c2], .bool false]) ∧ CnAt B w0 w' p ss := by
  obtain ⟨y, rfl, hk, h⟩ := h
  have ho := cn_open h
  obtain ⟨g, ha, hc1, hc2⟩ := row_some ho 1 (E := 185) (n := 2) (cap := y.c1) (a := y.a1) rfl (by omega)
  have hkl : k < y.ys.length := by rw [hk.ys.1]; exact hk2
  have hst := hk.ys.2 k y.ys[k] (by simp)
  refine ⟨g, y.c1, y.ys[k].i, (seg_at ho 0 (b := y.p) rfl 18 hk.c18).1.trans (by rw [ha]), by omega, row_cell ho 1 (E := 185) (n := 2) (cap := y.c1) (g := g) (by rw [← ha]; rfl) k (by simp [hkl]), ?_⟩
  refine (ins_committed (Own.pick ho k hkl) rfl seq).mono ?_
  rintro e w' ⟨c, rfl, -, -, hb, hv, -, -, x', hi, hs, h2⟩
  have hnone : committedI y.ys[k].st seq = none := by rw [hst]; exact new_committed _ _
  obtain ⟨a1, c1, e1, _⟩ := hb
  obtain ⟨a2, c2, e2, _⟩ := hv
  refine ⟨c.view, c.inst, c.seq, a1, _, c1, a2, _, c2, by rw [hnone, ← e1, ← e2]; rfl, ⟨y.p, y.cs, y.a1, y.c1, y.ys.set k x', y.bk⟩, rfl, ⟨⟨by simpa using hk.ys.1, fun j z hz => ?_⟩, hk.c18, hk.c22, hk.bk, hk.lp⟩, ?_⟩
  · rw [List.getElem?_set] at hz
    by_cases hkj : k = j
    · subst hkj
      simp only [hkl, if_true, Option.some.injEq] at hz
      subst hz
      exact hs.trans hst
    · rw [if_neg hkj] at hz
      exact hk.ys.2 j z hz
  · refine cn_shut ?_
    have h3 := Own.unpick (f := instR) (x := x') (l := y.ys) k hkl h2.drop.drop
    have hp : (y.ys.set k x').map Ins.ptr = y.ys.map Ins.ptr := by
      apply List.ext_getElem?
      intro j
      rw [List.getElem?_map, List.getElem?_map, List.getElem?_set]
      by_cases hkj : k = j
      · subst hkj
        simp [hkl, Ins.ptr, hi]
      · rw [if_neg hkj]
    show Own B w0 w' ((segR y.p 184 y.cs :: ownR 185 1 (.slice y.a1 2 y.c1) 2 ((y.ys.set k x').map Ins.ptr) :: lgL y.bk) ++ ((y.ys.set k x').map instR ++ ss))
    rw [hp]
    exact h3

theorem CnAt.upd {p : Nat} (h : CnAt B w0 W p ss) (hu : Upd [] W W') : CnAt B w0 W' p ss := by
  obtain ⟨y, h1, h2, h3⟩ := h
  exact ⟨y, h1, h2, h3.upd0 hu⟩

set_option maxHeartbeats 1600000 in
set_option maxRecDepth 100000 in
theorem node_committed {p : Nat} (h : CnAt B w0 W p ss) (k : Nat) (hk2 : k < 2) :
    Calls Tryz.prog 79 #[.pointer (some ⟨p, 0, none⟩), .int .i64 k] W fun e w' => e = .returned (.slice none 0 0) ∧ CnAt B w0 w' p ss := by
  have H := Lib.hid h
  obtain ⟨g, c, -, p18, -⟩ := committed_at h k hk2 0
  have hi : (k : Int) < 2 := by omega
  have hj : (0 : Int) ≤ (k : Int) := by omega
  clear h
  go_enter Tryz.func79, Tryz.ntmps79
  go_wp2_with fail
  clear p18
  go_loopw [5, 6] (fun v n wr => ∃ j : Nat, 1 ≤ j ∧ j ≤ 17 ∧ v = nilS ∧ n = .int .i64 j ∧ Hid (CnAt B w0 wr p ss)) (fun _ n _ => 17 - (intOf n).toNat)
  case atStart => exact ⟨1, by omega, by omega, rfl, rfl, H⟩
  case round =>
    clear H
    obtain ⟨j, hj1, hj2, rfl, rfl, H⟩ := hrel
    by_cases hlt : j ≤ 16
    · have hltI : (j : Int) ≤ 16 := by omega
      obtain ⟨g, c, i, p18, hcap, gk, hC⟩ := committed_at H.out k hk2 j
      have HC := Lib.hid hC
      clear hC
      go_wp2_with fail
      refine HC.out.mono ?_
      rintro e w5 ⟨x1, x2, x3, a1, n1, c1, a2, n2, c2, rfl, h5⟩
      have H5 := Lib.hid (h5.upd ((Upd.refl _ _).alloc (.cells #[.int .i64 x1, .int .i64 x2, .int .i64 x3, .slice a1 n1 c1, .slice a2 n2 c2] 147)))
      clear p18 hcap gk HC h5
      go_wp2_with fail
      go_roundw
      case rel => exact ⟨j + 1, by omega, by omega, rfl, by go_num, H5⟩
      case measure => simp [intOf]; omega
    · have hltI : decide ((j : Int) ≤ 16) = false := by simp; omega
      go_wp2_with fail
      go_ret
      exact ⟨rfl, H.out⟩

end
end Go.Proofs.YtimdphlolmbhnaaGreat

/- Stores, caches, ledgers that say the same. -/
namespace Go.Proofs.YtimdphlolmbhnaaGreat
open Go.RowKit Go.Heap

theorem run_index_agg {P : Program} (w : World) (t e : TypeId) (n : Nat) (cs : Array Value) (k : IntKind) (i : Int) (sz : Nat) (d : TypeDesc) (h : P.underlying t = some (.array n e)) (hd : P.underlying e = some d) (hr : d.isRow = true) (hi : (P.info? e).map (·.size) = some sz) (h0 : 0 ≤ i) (h1 : i < n) :
    (Instr.index t (.agg cs) (.int k i)).run P w = .ok (.agg (cs.extract (i.toNat * sz) (i.toNat * sz + sz))) w := by
  cases hq : P.info? e with
  | none => simp [hq] at hi
  | some inf =>
    have hs : inf.size = sz := by simpa [hq] using hi
    have e1 : (isAgg e).run P w = .ok true w := by
      cases d <;> first | (cases hr; done) | simp [isAgg, Go.underlying, Go.program, Sem.run_bind, Sem.run, hd, Pure.pure]
    have e2 : (Go.sizeOf e).run P w = .ok sz w := by simp [Go.sizeOf, Go.typeInfo, Go.program, Sem.run_bind, Sem.run, hq, hs, Pure.pure]
    simp [Instr.index, run_underlying h, asIntOf, h0, h1, part, e1, e2, Sem.run_bind]

theorem st_extract : ∀ (l : List (Bool × Int)) (k : Nat) (x : Bool × Int), l[k]? = some x → (stCells l).toArray.extract (k * 2) (k * 2 + 2) = #[.bool x.1, .int .i64 x.2] := by
  intro l k x hx
  have hk := (List.getElem?_eq_some_iff.1 hx).1
  apply Array.ext'
  rw [Array.toList_extract]
  simp only [List.extract_eq_take_drop]
  rw [show k * 2 + 2 - k * 2 = 2 by omega]
  apply List.ext_getElem?
  intro j
  rw [List.getElem?_take]
  by_cases hj : j < 2
  · rw [if_pos hj, List.getElem?_drop]
    have := flat_get (cells := scCells) (sz := 2) (fun _ => rfl) l k j x hx hj
    rw [show k * 2 + j = k * 2 + j from rfl] at this
    rw [this]
    match j, hj with
    | 0, _ => rfl
    | 1, _ => rfl
  · rw [if_neg hj]
    match j, hj with
    | j + 2, _ => rfl

section
variable {B : Nat} {w0 w W W' : World} {ss rs : List Res}

theorem Tryz.infoSc : (Tryz.prog.info? 153).map (·.size) = some 2 := by kernel_rfl

set_option maxHeartbeats 1600000 in
set_option maxRecDepth 100000 in
theorem store_same {sx sy : Nat} {st : List (Bool × Int)} (hl : st.length = 64) (hx : W.rangeAt sx 0 (stCells st)) (hy : W.rangeAt sy 0 (stCells st)) :
    Calls Tryz.prog 98 #[.pointer (some ⟨sx, 0, none⟩), .pointer (some ⟨sy, 0, none⟩)] W fun e w' => e = .returned (.bool true) ∧ Upd [] W w' := by
  have hn : (stCells st).length = 128 := by rw [st_len, hl]
  have HN := Lib.hid hn
  have HI : Hid ((Tryz.prog.info? 154).map (·.size) = some (stCells st).length) := Lib.hid (by rw [hn]; kernel_rfl)
  have HX := Lib.hid hx
  have HY := Lib.hid hy
  have HL := Lib.hid hl
  have HIX : Hid (∀ (k : Nat) (x : Bool × Int), st[k]? = some x → ∀ w : World, (Instr.index 154 (.agg (stCells st).toArray) (.int .i64 k)).run Tryz.prog w = .ok (.agg #[.bool x.1, .int .i64 x.2]) w) := Lib.hid (fun k x hk w => by
    have hk64 : k < 64 := by have := (List.getElem?_eq_some_iff.1 hk).1; omega
    rw [run_index_agg w 154 153 64 (stCells st).toArray .i64 (k : Int) 2 _ Tryz.underlying154 Tryz.underlying153 rfl Tryz.infoSc (by omega) (by omega)]
    rw [show ((k : Int).toNat) = k by omega, st_extract st k x hk])
  have HYC : Hid (∀ (k : Nat) (x : Bool × Int), st[k]? = some x → ∀ w : World, w.rangeAt sy 0 (stCells st) → w.cell? ⟨sy, k * 2, none⟩ = some (.bool x.1) ∧ w.cell? ⟨sy, k * 2 + 1, none⟩ = some (.int .i64 x.2)) := Lib.hid (fun k x hk w hw => by
    have h0 := flat_get (cells := scCells) (sz := 2) (fun _ => rfl) st k 0 x hk (by omega)
    have h1 := flat_get (cells := scCells) (sz := 2) (fun _ => rfl) st k 1 x hk (by omega)
    exact ⟨by have := range_get hw (k * 2 + 0) h0; simpa [scCells] using this, by have := range_get hw (k * 2 + 1) h1; simpa [scCells] using this⟩)
  have hc0 : ∃ v, W.cell? ⟨sx, 0, none⟩ = some v := ⟨_, range_get hx 0 (List.getElem?_eq_getElem (by omega))⟩
  have hc1 : ∃ v, W.cell? ⟨sy, 0, none⟩ = some v := ⟨_, range_get hy 0 (List.getElem?_eq_getElem (by omega))⟩
  clear hn hx hy hl
  generalize stCells st = cs at *
  go_enter Tryz.func98, Tryz.ntmps98
  go_wp2_with (refine wpList_load_mid rfl 154 (.tmp 9) rfl sx 0 rfl cs _ HX.out Tryz.underlying154 rfl HI.out ?_)
  clear hc0 hc1
  go_loopw [11] (fun n wr => ∃ k : Nat, k ≤ 64 ∧ n = .int .i64 k ∧ Hid (Upd [] W wr)) (fun n _ => 64 - (intOf n).toNat)
  case atStart => exact ⟨0, by omega, rfl, Lib.hid (Upd.refl _ _)⟩
  case round =>
    obtain ⟨k, hk, rfl, HU⟩ := hrel
    by_cases hlt : k < 64
    · have hkI : (k : Int) < 64 := by omega
      have hk0 : (0 : Int) ≤ (k : Int) := by omega
      obtain ⟨x, hx⟩ : ∃ x, st[k]? = some x := ⟨_, List.getElem?_eq_getElem (by rw [HL.out]; exact hlt)⟩
      have hix := HIX.out k x hx
      have hu := HU.out.alloc (.cells #[.bool x.1, .int .i64 x.2] 153)
      have HU2 := Lib.hid hu
      obtain ⟨y0, y1⟩ := HYC.out k x hx _ (range_upd hu HY.out)
      have e0 : (wr.alloc (.cells #[.bool x.1, .int .i64 x.2] 153)).drew.cell? ⟨sy, k * 2, none⟩ = some (.bool x.1) := y0
      have e1 : (wr.alloc (.cells #[.bool x.1, .int .i64 x.2] 153)).drew.cell? ⟨sy, k * 2 + 1, none⟩ = some (.int .i64 x.2) := y1
      clear hx hu y0 y1
      go_wp2_with fail
      refine Held.wp_held [] [] [7] [] (by kernel_rfl) (by kernel_rfl) trivial ?_
      simp only [Held.cutAt, Held.walk]
      go_wp2_with fail
      refine ⟨trivial, by rfl, trivial, ?_⟩
      clear e0 e1 hix
      go_wp2_with fail
      go_roundw
      case rel => exact ⟨k + 1, by omega, by go_num, Lib.hid HU2.out.drew⟩
      case measure => simp [intOf]; omega
    · have hkI : decide ((k : Int) < 64) = false := by simp; omega
      go_wp2_with fail
      go_ret
      exact ⟨rfl, HU.out⟩

theorem rp_cell {g : Nat} {l : List (Int × Int)} (h : w.rangeAt g 0 (l.flatMap rpCells)) {k : Nat} {x : Int × Int} (hk : l[k]? = some x) : w.cell? ⟨g, k * 2, none⟩ = some (.int .i64 x.1) ∧ w.cell? ⟨g, k * 2 + 1, none⟩ = some (.int .i64 x.2) := by
  have h0 := flat_get (cells := rpCells) (sz := 2) (fun _ => rfl) l k 0 x hk (by omega)
  have h1 := flat_get (cells := rpCells) (sz := 2) (fun _ => rfl) l k 1 x hk (by omega)
  exact ⟨by have := range_get h (k * 2 + 0) h0; simpa [rpCells] using this, by have := range_get h (k * 2 + 1) h1; simpa [rpCells] using this⟩

set_option maxHeartbeats 1600000 in
set_option maxRecDepth 100000 in
theorem cache_same {cx cy gx gy kx ky : Nat} {l : List (Int × Int)} (hn : l.length ≤ 4) (hkx : l.length ≤ kx) (hky : l.length ≤ ky) (hx : W.heap[cx]? = some (chO gx l.length kx)) (hy : W.heap[cy]? = some (chO gy l.length ky)) (rx : W.rangeAt gx 0 (l.flatMap rpCells)) (ry : W.rangeAt gy 0 (l.flatMap rpCells)) :
    Calls Tryz.prog 99 #[.pointer (some ⟨cx, 0, none⟩), .pointer (some ⟨cy, 0, none⟩)] W fun e w' => e = .returned (.bool true) ∧ Upd [] W w' := by
  have x0 : W.cell? ⟨cx, 0, none⟩ = some (.slice (some ⟨gx, 0, none⟩) l.length kx) := by rw [block_cell hx]; rfl
  have y0 : W.cell? ⟨cy, 0, none⟩ = some (.slice (some ⟨gy, 0, none⟩) l.length ky) := by rw [block_cell hy]; rfl
  have HF := Lib.hid (And.intro x0 y0)
  have HX := Lib.hid rx
  have HY := Lib.hid ry
  clear hx hy rx ry
  have hN : (l.length : Int) ≤ 4 := by omega
  have hKx : (l.length : Int) ≤ (kx : Int) := by omega
  have hKy : (l.length : Int) ≤ (ky : Int) := by omega
  go_enter Tryz.func99, Tryz.ntmps99
  go_wp2_with fail
  have e0 : W.drew.cell? ⟨cx, 0, none⟩ = some (.slice (some ⟨gx, 0, none⟩) l.length kx) := x0
  have f0 : W.drew.cell? ⟨cy, 0, none⟩ = some (.slice (some ⟨gy, 0, none⟩) l.length ky) := y0
  refine Mix.wp_text2 (by kernel_rfl) (by kernel_rfl) ?_
  go_wp2_with fail
  refine ⟨by rfl, ?_⟩
  go_wp2_with fail
  clear e0 f0 x0 y0
  go_loopw [23] (fun n wr => ∃ k : Nat, k ≤ l.length ∧ n = .int .i64 k ∧ Hid (Upd [] W wr)) (fun n _ => l.length - (intOf n).toNat)
  case atStart => exact ⟨0, by omega, rfl, Lib.hid ((Upd.refl _ _).drew)⟩
  case round =>
    obtain ⟨k, hk, rfl, HU⟩ := hrel
    by_cases hlt : k < l.length
    · have hkI : (k : Int) < (l.length : Int) := by omega
      have hk0 : (0 : Int) ≤ (k : Int) := by omega
      obtain ⟨x, hx⟩ : ∃ x, l[k]? = some x := ⟨_, List.getElem?_eq_getElem hlt⟩
      obtain ⟨a0, a1⟩ := rp_cell (range_upd HU.out HX.out) hx
      have hu := HU.out.alloc (.cells #[.int .i64 x.1, .int .i64 x.2] 158)
      have HU2 := Lib.hid hu
      obtain ⟨b0, b1⟩ := rp_cell (range_upd hu HY.out) hx
      have c0 := cell_upd hu HF.out.2
      have d0 : (wr.alloc (.cells #[.int .i64 x.1, .int .i64 x.2] 158)).drew.cell? ⟨gy, k * 2, none⟩ = some (.int .i64 x.1) := b0
      have d1 : (wr.alloc (.cells #[.int .i64 x.1, .int .i64 x.2] 158)).drew.cell? ⟨gy, k * 2 + 1, none⟩ = some (.int .i64 x.2) := b1
      have d2 : (wr.alloc (.cells #[.int .i64 x.1, .int .i64 x.2] 158)).drew.cell? ⟨cy, 0, none⟩ = some (.slice (some ⟨gy, 0, none⟩) l.length ky) := c0
      clear hx hu b0 b1 c0
      go_upto_region 6 with fail
      refine Held.wp_held [] [] [8] [] (by kernel_rfl) (by kernel_rfl) trivial ?_
      simp only [Held.cutAt, Held.walk]
      go_wp2_with fail
      refine ⟨trivial, by rfl, trivial, ?_⟩
      clear a0 a1 d0 d1 d2
      go_wp2_with fail
      go_roundw
      case rel => exact ⟨k + 1, by omega, by go_num, Lib.hid HU2.out.drew⟩
      case measure => simp [intOf]; omega
    · have hkI : decide ((k : Int) < (l.length : Int)) = false := by simp; omega
      go_wp2_with fail
      go_ret
      exact ⟨rfl, HU.out⟩

set_option maxHeartbeats 1600000 in
set_option maxRecDepth 100000 in
/-- Two ledgers that are new are the same. -/
theorem ledger_same {x y : Lg} (h : Own B w0 W (lgL x ++ (lgL y ++ ss))) (hx : LgOk x) (hy : LgOk y) (e : x.lp = newL 2) (e' : y.lp = newL 2) :
    Calls Tryz.prog 78 #[.pointer (some ⟨x.p, 0, none⟩), .pointer (some ⟨y.p, 0, none⟩)] W fun e w' => e = .returned (.bool true) ∧ Upd [] W w' := by
  obtain ⟨xp, xs, xc, xg, xcap, xv, xcl, xes, xst, xrp⟩ := x
  obtain ⟨yp, ys, yc, yg, ycap, yv, ycl, yes, yst, yrp⟩ := y
  simp only [Lg.lp, newL, Lp.mk.injEq] at e e'
  obtain ⟨rfl, rfl, rfl, rfl⟩ := e
  obtain ⟨rfl, rfl, rfl, rfl⟩ := e'
  obtain ⟨ax, kx, rfl, hzx⟩ := Z.of (ownR_owns (h.get 1 rfl))
  obtain ⟨ay, ky, rfl, hzy⟩ := Z.of (ownR_owns (h.get 6 rfl))
  have hd := h.drew
  obtain ⟨x1, -⟩ := blk_at' hd 0 (b := xp) (T := 96) rfl 1 (v := .slice ax 0 kx) rfl
  obtain ⟨x2, -⟩ := blk_at' hd 0 (b := xp) (T := 96) rfl 2 (v := ptrV xs) rfl
  obtain ⟨x3, -⟩ := blk_at' hd 0 (b := xp) (T := 96) rfl 3 (v := ptrV xc) rfl
  obtain ⟨y1, -⟩ := blk_at' hd 5 (b := yp) (T := 96) rfl 1 (v := .slice ay 0 ky) rfl
  obtain ⟨y2, -⟩ := blk_at' hd 5 (b := yp) (T := 96) rfl 2 (v := ptrV ys) rfl
  obtain ⟨y3, -⟩ := blk_at' hd 5 (b := yp) (T := 96) rfl 3 (v := ptrV yc) rfl
  have HS := Lib.hid (store_same (W := W.drew) (sx := xs) (sy := ys) (st := st0) rfl (range_seg (hd.get 2 rfl)) (range_seg (hd.get 7 rfl)))
  have HR : Hid (∀ w1, Upd [] W.drew w1 → Calls Tryz.prog 99 #[.pointer (some ⟨xc, 0, none⟩), .pointer (some ⟨yc, 0, none⟩)] w1 fun e w' => e = .returned (.bool true) ∧ Upd [] w1 w') := Lib.hid (fun w1 hu => by
    have h1 := hd.upd0 hu
    exact cache_same (cx := xc) (cy := yc) (gx := xg) (gy := yg) (kx := xcap) (ky := ycap) (l := List.replicate 2 (0, 0)) (by decide) hx.cap.1 hy.cap.1 (h1.blkAt 3 rfl) (h1.blkAt 8 rfl) (range_seg (h1.get 4 rfl)) (range_seg (h1.get 9 rfl)))
  clear h hd hx hy
  go_enter Tryz.func78, Tryz.ntmps78
  go_wp2_with fail
  refine Held.wp_held [(xp, 1, [.slice ax 0 kx]), (yp, 1, [.slice ay 0 ky]), (xp, 2, [ptrV xs]), (yp, 2, [ptrV ys]), (xp, 3, [ptrV xc]), (yp, 3, [ptrV yc])] [(3, 0), (8, 1), (15, 0), (19, 1), (26, 2), (30, 3), (37, 4), (41, 5)] [42] [(21, true), (11, true)] (by kernel_rfl) (by kernel_rfl) ⟨⟨x1, trivial⟩, ⟨y1, trivial⟩, ⟨x2, trivial⟩, ⟨y2, trivial⟩, ⟨x3, trivial⟩, ⟨y3, trivial⟩, trivial⟩ ?_
  simp only [Held.cutAt, Held.walk, List.take_succ_cons, List.take_zero, List.drop_succ_cons, List.drop_zero]
  go_wp2_with fail
  refine (prefix_z _ _ _ _ _ _).mono ?_
  rintro e w1 ⟨rfl, rfl⟩
  go_wp2_with fail
  refine ⟨⟨⟨x1, trivial⟩, ⟨y1, trivial⟩, ⟨x2, trivial⟩, ⟨y2, trivial⟩, ⟨x3, trivial⟩, ⟨y3, trivial⟩, trivial⟩, ?_⟩
  go_wp2_with fail
  refine HS.out.mono ?_
  rintro e w2 ⟨rfl, hu⟩
  have HU := Lib.hid hu
  have HC := Lib.hid (HR.out w2 hu)
  obtain ⟨u1, u2, u3⟩ := And.intro (cell_upd hu x1) (And.intro (cell_upd hu x2) (cell_upd hu x3))
  obtain ⟨v1, v2, v3⟩ := And.intro (cell_upd hu y1) (And.intro (cell_upd hu y2) (cell_upd hu y3))
  clear hu x1 x2 x3 y1 y2 y3 HS HR
  go_wp2_with fail
  refine ⟨⟨⟨u1, trivial⟩, ⟨v1, trivial⟩, ⟨u2, trivial⟩, ⟨v2, trivial⟩, ⟨u3, trivial⟩, ⟨v3, trivial⟩, trivial⟩, ?_⟩
  go_wp2_with fail
  refine HC.out.mono ?_
  rintro e w3 ⟨rfl, hu⟩
  have HU2 := Lib.hid hu
  clear u1 u2 u3 v1 v2 v3 HC hu
  go_wp2_with fail
  refine ⟨trivial, by rfl, ⟨⟨rfl, .inl ⟨by kernel_rfl, rfl⟩⟩, ⟨rfl, .inl ⟨by kernel_rfl, rfl⟩⟩, ⟨rfl, .inl ⟨by kernel_rfl, rfl⟩⟩, ⟨rfl, .inl ⟨by kernel_rfl, rfl⟩⟩, ⟨rfl, .inl ⟨by kernel_rfl, rfl⟩⟩, ⟨rfl, .inl ⟨by kernel_rfl, rfl⟩⟩, ⟨rfl, .inl ⟨by kernel_rfl, rfl⟩⟩, ⟨rfl, .inl ⟨by kernel_rfl, rfl⟩⟩, trivial⟩, ?_⟩
  go_wp2_with fail
  go_ret
  exact ⟨rfl, ((Upd.refl _ _).drew.trans HU.out).trans HU2.out⟩

end
end Go.Proofs.YtimdphlolmbhnaaGreat
