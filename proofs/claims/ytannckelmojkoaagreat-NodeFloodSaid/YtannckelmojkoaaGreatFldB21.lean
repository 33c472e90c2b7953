/- Parts of the proof, one behind the other. -/
import Derived.Test.YtannckelmojkoaaGreatFldB20
import Derived.Test.YtannckelmojkoaaGreatRows
import Derived.Test.YtannckelmojkoaaGreatChecked
import Derived.JoinedOf

/- NodeFlood: bytes that are none, taken again and again. -/
namespace Go.Proofs.YtannckelmojkoaaGreat
open Go.RowKit Go.Heap

/-- What the guard knows of party 1 after k messages that are none. -/
def peersK (fl sh : Int) (k : Nat) : List Peer := if k = 0 then [] else if (k : Int) ≤ fl then [⟨1, k, 0⟩] else [⟨1, 0, sh⟩]
def bdK (fl : Int) (k : Nat) : Int := min k (fl + 1)
def shK (fl : Int) (k : Nat) : Int := max ((k : Int) - fl - 1) 0
theorem peersK_len (fl sh : Int) (k : Nat) : (peersK fl sh k).length ≤ 1 := by
  unfold peersK
  split
  · simp
  · split <;> simp
theorem peersK_ok {fl sh : Int} (hf : 1 ≤ fl) (k : Nat) : ∀ q ∈ peersK fl sh k, 0 ≤ q.bad ∧ q.bad ≤ fl := by
  unfold peersK
  split
  · simp
  · split
    · intro q hq; simp at hq; subst hq; exact ⟨by simp, by assumption⟩
    · intro q hq; simp at hq; subst hq; exact ⟨by simp, by simp; omega⟩
theorem peersK_shut {fl sh : Int} (hs : 1 ≤ sh) (hf : 1 ≤ fl) (k : Nat) : shutP (peersK fl sh k) 1 0 = decide (fl + 1 ≤ (k : Int)) := by
  have hw : wthn 0 = 0 := by unfold wthn; omega
  unfold peersK
  by_cases h0 : k = 0
  · rw [if_pos h0]; subst h0
    show false = _
    symm
    exact decide_eq_false (by omega)
  · rw [if_neg h0]
    by_cases h1 : (k : Int) ≤ fl
    · rw [if_pos h1]
      show (if (1 : Int) = 1 then decide (wthn 0 < 0) else false) = _
      rw [if_pos rfl, Bool.eq_iff_iff, decide_eq_true_eq, decide_eq_true_eq]
      omega
    · rw [if_neg h1]
      show (if (1 : Int) = 1 then decide (wthn 0 < sh) else false) = _
      rw [if_pos rfl, Bool.eq_iff_iff, decide_eq_true_eq, decide_eq_true_eq]
      omega
theorem peersK_next {fl sh : Int} (hf : 1 ≤ fl) (k : Nat) (hk : (k : Int) < fl + 1) : bumpP fl sh 0 1 (peersK fl sh k) = peersK fl sh (k + 1) := by
  have hw : wthn 0 = 0 := by unfold wthn; omega
  by_cases h0 : k = 0
  · subst h0
    have a2 : peersK fl sh (0 + 1) = [⟨1, ((0 + 1 : Nat) : Int), 0⟩] := by unfold peersK; rw [if_neg (by omega), if_pos (by simpa using hf)]
    rw [a2]
    rfl
  · have a1 : peersK fl sh k = [⟨1, k, 0⟩] := by unfold peersK; rw [if_neg h0, if_pos (by omega)]
    rw [a1]
    show (if (1 : Int) = 1 then (if (k : Int) + 1 ≤ fl then (⟨1, (k : Int) + 1, 0⟩ : Peer) else ⟨1, 0, wthn 0 + sh⟩) :: [] else _) = _
    rw [if_pos rfl]
    by_cases h1 : (k : Int) + 1 ≤ fl
    · have a2 : peersK fl sh (k + 1) = [⟨1, ((k + 1 : Nat) : Int), 0⟩] := by unfold peersK; rw [if_neg (by omega), if_pos (by push_cast; omega)]
      rw [if_pos h1, a2]
      rfl
    · have a2 : peersK fl sh (k + 1) = [⟨1, 0, sh⟩] := by unfold peersK; rw [if_neg (by omega), if_neg (by push_cast; omega)]
      rw [if_neg h1, a2, hw, Int.zero_add]
theorem peersK_same {fl sh : Int} (hf : 1 ≤ fl) (k : Nat) (hk : fl + 1 ≤ (k : Int)) : peersK fl sh (k + 1) = peersK fl sh k := by
  have a1 : peersK fl sh k = [⟨1, 0, sh⟩] := by unfold peersK; rw [if_neg (by omega), if_neg (by omega)]
  have a2 : peersK fl sh (k + 1) = [⟨1, 0, sh⟩] := by unfold peersK; rw [if_neg (by omega), if_neg (by push_cast; omega)]
  rw [a1, a2]

section
variable {B : Nat} {w0 w W : World} {rs ss : List Res} {p nt nm : Nat} {fl sh now bd sht : Int} {ps : List Peer}

theorem own_blk_row {b n E sz : Nat} {cs : Array Value} (h : Own B w0 W (blk b (.cells cs E (0, 0)) :: rs)) (hs : cs.size = n * sz) (hn : n ≤ maxLen) : Own B w0 W (ownR E sz (.slice (some ⟨b, 0, none⟩) n n) n cs.toList :: rs) := by
  refine h.alter (r' := ownR E sz (.slice (some ⟨b, 0, none⟩) n n) n cs.toList) ⟨[], ⟨⟨by simp [hs], .inr ⟨b, n, cs, rfl, Nat.zero_le _, h.blk_out, Nat.le_refl _, hn, hs, ?_⟩⟩, rfl⟩, by simp, fun k hk => h.lt k hk⟩ (by simp [ownR, blkOf, blk])
  exact List.take_of_length_le (by simp [hs])

theorem NQ.below (h : NQ B w0 W p nt nm fl sh now bd sht ps ss) : Below B w0 W := by
  obtain ⟨gd, t, ia, ic, i0, i1, tbb, bgb, mgb, mtb, vt, bk, pt, v2, v3, cv, gv, st, rest, hs0, hs1, x0, x1, e0, e1, s0, s1, ho⟩ := h
  exact ho.below
theorem own_tail {l : List Res} : ∀ {r : List Res}, Own B w0 W (r ++ l) → Own B w0 W l
  | [], h => h
  | _ :: r, h => own_tail (r := r) h.drop
theorem NQ.ss_at (h : NQ B w0 W p nt nm fl sh now bd sht ps ss) : Own B w0 W ss := by
  obtain ⟨gd, t, ia, ic, i0, i1, tbb, bgb, mgb, mtb, vt, bk, pt, v2, v3, cv, gv, st, rest, hs0, hs1, x0, x1, e0, e1, s0, s1, ho⟩ := h
  have h2 : Own B w0 W (rest ++ ss) := ho.drop.drop.drop.drop.drop.drop.drop.drop.drop.drop.drop.drop.drop
  exact own_tail h2

/-- One more message that is none, of party 1. -/
theorem nq_more (k : Nat) {bv : Value} {bs : Bys} (hb : Byt W bv bs) (hl : bs.length ≤ 65536) (hf1 : 1 ≤ fl) (hf2 : fl ≤ 64) (hs1 : 1 ≤ sh) (hs2 : sh ≤ 64) (hk : k ≤ 1000) (h : NQ B w0 W p nt nm fl sh 0 (bdK fl k) (shK fl k) (peersK fl sh k) ss) :
    Calls Tryz.prog 34 #[pI p, .int .i64 1, bv] W fun e w' => e = .returned (.tuple #[]) ∧ NQ B w0 w' p nt nm fl sh 0 (bdK fl (k + 1)) (shK fl (k + 1)) (peersK fl sh (k + 1)) ss := by
  have hlen := peersK_len fl sh k
  have hsp := peersK_shut hs1 hf1 (sh := sh) k
  by_cases hc : fl + 1 ≤ (k : Int)
  · rw [decide_eq_true hc] at hsp
    refine (nq_shut (by omega) (by unfold shK; omega) (by unfold shK; omega) hsp h).mono ?_
    rintro e w' ⟨q1, q2⟩
    refine ⟨q1, ?_⟩
    rw [peersK_same hf1 k hc]
    have e1 : bdK fl (k + 1) = bdK fl k := by unfold bdK; omega
    have e2 : shK fl (k + 1) = shK fl k + 1 := by unfold shK; omega
    rw [e1, e2]
    exact q2
  · rw [decide_eq_false hc] at hsp
    refine (nq_bad hb hl hf1 hf2 hs1 hs2 (peersK_ok hf1 k) (by omega) (by unfold bdK; omega) (by unfold bdK; omega) hsp h).mono ?_
    rintro e w' ⟨q1, q2⟩
    refine ⟨q1, ?_⟩
    rw [peersK_next hf1 k (by omega)] at q2
    have e1 : bdK fl (k + 1) = bdK fl k + 1 := by unfold bdK; omega
    have e2 : shK fl (k + 1) = shK fl k := by unfold shK; omega
    rw [e1, e2]
    exact q2

end
end Go.Proofs.YtannckelmojkoaaGreat

/- NodeFlood: the walk. -/
namespace Go.Proofs.YtannckelmojkoaaGreat
open Go.RowKit Go.Heap

abbrev cntA (bd sht : Int) : Value := .agg #[.int .i64 0, .int .i64 bd, .int .i64 0, .int .i64 sht, .int .i64 0]
abbrev cfgB (fl sh : Int) : Obj := .cells (cfgF fl sh) 30 (0, 0)
theorem peersK_two (fl sh : Int) (k : Nat) : shutP (peersK fl sh k) 2 0 = false ∧ bumpP fl sh 0 2 (peersK fl sh k) = peersK fl sh k ++ [⟨2, 1, 0⟩] := by
  unfold peersK
  split
  · exact ⟨rfl, rfl⟩
  · split <;> exact ⟨rfl, rfl⟩
theorem peersK_end {fl sh : Int} (h1 : 1 ≤ sh) (h2 : sh ≤ 64) (k : Nat) : shutP (peersK fl sh k ++ [⟨2, 1, 0⟩]) 1 sh = false := by
  have hw : wthn sh = sh := by unfold wthn; omega
  unfold peersK
  split
  · rfl
  · split
    · show (if (1 : Int) = 1 then decide (wthn sh < 0) else _) = false
      rw [if_pos rfl, hw]
      exact decide_eq_false (by omega)
    · show (if (1 : Int) = 1 then decide (wthn sh < sh) else _) = false
      rw [if_pos rfl, hw]
      exact decide_eq_false (by omega)
theorem byt_nil (w : World) : Byt w (.slice none 0 0) [] := ⟨Reads.nil w 1, by simp⟩
theorem Tryz.guardCnt : Tryz.prog.eqGuardType Tryz.prog.depth 95 = false := by kernel_rfl
theorem Tryz.infoU8 : (Tryz.prog.info? 5).map (fun i => (i.zero, i.size, i.bytes)) = some (some (.int .u8 0), 1, 1) := by kernel_rfl
theorem run_equal_cnt (bd sht : Int) (w : World) : (Op.equalIn 10000 95 (cntA bd sht) (cntA bd sht)).run Tryz.prog w = .ok true w := by
  simp [go_sem]

section
variable {B : Nat} {w0 w W : World} {rs ss : List Res} {p nt nm : Nat} {fl sh now bd sht : Int} {ps : List Peer}
theorem perm13r {α : Type} (a0 a1 a2 a3 a4 a5 a6 a7 a8 a9 a10 a11 a12 : α) (R S : List α) (b : α) : (b :: (a0 :: a1 :: a2 :: a3 :: a4 :: a5 :: a6 :: a7 :: a8 :: a9 :: a10 :: a11 :: a12 :: (R ++ S))).Perm (a0 :: a1 :: a2 :: a3 :: a4 :: a5 :: a6 :: a7 :: a8 :: a9 :: a10 :: a11 :: a12 :: (R ++ (b :: S))) := by
  have h := (List.perm_middle (l₁ := [a0, a1, a2, a3, a4, a5, a6, a7, a8, a9, a10, a11, a12] ++ R) (a := b) (l₂ := S)).symm
  rw [List.append_assoc, List.append_assoc] at h
  exact h
theorem NQ.box (h : NQ B w0 W p nt nm fl sh now bd sht ps ss) (o : Obj) : NQ B w0 (W.alloc o) p nt nm fl sh now bd sht ps (blk W.heap.size o :: ss) := by
  obtain ⟨gd, t, ia, ic, i0, i1, tbb, bgb, mgb, mtb, vt, bk, pt, v2, v3, cv, gv, st, rest, hs0, hs1, x0, x1, e0, e1, s0, s1, ho⟩ := h
  have h3 := (ho.box o).perm (perm13r _ _ _ _ _ _ _ _ _ _ _ _ _ _ _ _)
  exact ⟨gd, t, ia, ic, i0, i1, tbb, bgb, mgb, mtb, vt, bk, pt, v2, v3, cv, gv, st, rest, hs0, hs1, x0, x1, e0, e1, s0, s1, h3⟩
theorem NQ.put {q : Nat} {o o' : Obj} (h : NQ B w0 W p nt nm fl sh now bd sht ps (blk q o :: ss)) (i : Nat) (v : Value) (e : setIn i v o = o') : NQ B w0 (W.setCell ⟨q, i, none⟩ v) p nt nm fl sh now bd sht ps (blk q o' :: ss) := by
  obtain ⟨gd, t, ia, ic, i0, i1, tbb, bgb, mgb, mtb, vt, bk, pt, v2, v3, cv, gv, st, rest, hs0, hs1, x0, x1, e0, e1, s0, s1, ho⟩ := h
  have h2 := ho.perm (perm13r _ _ _ _ _ _ _ _ _ _ _ _ _ _ _ _).symm
  have h3 := (Own.storeTo h2 i v e).perm (perm13r _ _ _ _ _ _ _ _ _ _ _ _ _ _ _ _)
  exact ⟨gd, t, ia, ic, i0, i1, tbb, bgb, mgb, mtb, vt, bk, pt, v2, v3, cv, gv, st, rest, hs0, hs1, x0, x1, e0, e1, s0, s1, h3⟩
theorem nq_len (h : NQ B w0 W p nt nm fl sh now bd sht ps ss) : Calls Tryz.prog 44 #[pI nt] W fun e w' => e = .returned (.int .i64 0) ∧ W = w' := by
  obtain ⟨gd, t, ia, ic, i0, i1, tbb, bgb, mgb, mtb, vt, bk, pt, v2, v3, cv, gv, st, rest, hs0, hs1, x0, x1, e0, e1, s0, s1, ho⟩ := h
  exact nlen0 (ho.blkAt 11 rfl) (ho.blkAt 12 rfl)
abbrev cntO (bd sht : Int) : Obj := .cells #[.int .i64 0, .int .i64 bd, .int .i64 0, .int .i64 sht, .int .i64 0] 95 (0, 0)
theorem cnt_cells {q : Nat} (h : NQ B w0 W p nt nm fl sh now bd sht ps (blk q (cntO bd sht) :: ss)) : W.cell? ⟨q, 0, none⟩ = some (.int .i64 0) ∧ W.cell? ⟨q, 1, none⟩ = some (.int .i64 bd) ∧ W.cell? ⟨q, 2, none⟩ = some (.int .i64 0) ∧ W.cell? ⟨q, 3, none⟩ = some (.int .i64 sht) ∧ W.cell? ⟨q, 4, none⟩ = some (.int .i64 0) := by
  have hb := h.ss_at.blkAt 0 rfl
  exact ⟨cell_blk hb 0 rfl, cell_blk hb 1 rfl, cell_blk hb 2 rfl, cell_blk hb 3 rfl, cell_blk hb 4 rfl⟩
end

section
variable {B : Nat} {w0 w W : World}
set_option maxHeartbeats 8000000 in
set_option maxRecDepth 100000 in
theorem flood21_any (a0 a1 a2 : Int) {bv : Value} {bs : Bys} (hb : Byt W bv bs) : Calls Tryz.prog 8 #[.int .i64 a0, .int .i64 a1, .int .i64 a2, bv] W fun e w' => e = .returned (.bool true) ∧ Upd [] W w' := by
  have hm0 := emod_in a0 64 (by omega)
  have hm1 := emod_in a1 64 (by omega)
  obtain ⟨i0, hi, hz0, hz1, hz2⟩ := info_parts Tryz.infoU8
  have HB := Lib.hid hb
  obtain ⟨ao, cap, rfl, -, -⟩ := byt_form hb
  clear hb
  go_enter Tryz.func8, Tryz.ntmps8
  go_wp2_with fail
  refine (standardF _).mono ?_
  rintro e w1 ⟨rfl, hu⟩
  have H1 := Lib.hid (((Own.start (Below.refl W.heap.size W) (Nat.le_refl _)).upd0 hu).box (cfgB 8 8))
  clear hu
  go_upto_region 2 with fail
  generalize hc : w1.heap.size = c at *
  generalize World.alloc w1 _ = w2 at *
  clear hc
  have f5 := block_frozen (H1.out.blkAt 0 rfl) 5
  have f6 := block_frozen (H1.out.blkAt 0 rfl) 6
  have c5 := cell_blk (H1.out.blkAt 0 rfl) 5 (v := .int .i64 8) rfl
  have c6 := cell_blk (H1.out.blkAt 0 rfl) 6 (v := .int .i64 8) rfl
  go_wp2_with fail
  refine (Within_any a0 64 _ (by omega) (by omega)).mono ?_
  rintro e w' ⟨rfl, rfl⟩
  go_wp2_with fail
  refine (Within_any a1 64 _ (by omega) (by omega)).mono ?_
  rintro e w' ⟨rfl, rfl⟩
  have H2 := Lib.hid (Own.storeTo (Own.storeTo H1.out 5 (.int .i64 (1 + a0 % 64)) (o' := cfgB (1 + a0 % 64) 8) rfl) 6 (.int .i64 (1 + a1 % 64)) (o' := cfgB (1 + a0 % 64) (1 + a1 % 64)) rfl)
  obtain ⟨fl, hfl⟩ : ∃ fl, fl = 1 + a0 % 64 := ⟨_, rfl⟩
  obtain ⟨sh, hsh⟩ : ∃ sh, sh = 1 + a1 % 64 := ⟨_, rfl⟩
  go_upto_region 3 with fail
  rw [← hfl, ← hsh] at H2
  rw [← hfl, ← hsh]
  have g1 : 1 ≤ fl := by omega
  have g2 : fl ≤ 64 := by omega
  have g3 : 1 ≤ sh := by omega
  have g4 : sh ≤ 64 := by omega
  clear H1 f5 f6 c5 c6 hfl hsh hm0 hm1
  generalize World.setCell _ _ _ = w3 at *
  have HN := Lib.hid (notary_new H2.out)
  go_wp2_with fail
  refine HN.out.mono ?_
  rintro e w4 ⟨nt, nm, rfl, h4⟩
  have H4 := Lib.hid h4
  clear h4 HN H2
  have k0 := cell_blk (H4.out.blkAt 2 rfl) 0 (v := .int .i64 1) rfl
  have k1 := cell_blk (H4.out.blkAt 2 rfl) 1 (v := .int .i64 2) rfl
  have k2 := cell_blk (H4.out.blkAt 2 rfl) 2 (v := .int .i64 2) rfl
  have k3 := cell_blk (H4.out.blkAt 2 rfl) 3 (v := .int .i64 4) rfl
  have k4 := cell_blk (H4.out.blkAt 2 rfl) 4 (v := .int .i64 64) rfl
  have k5 := cell_blk (H4.out.blkAt 2 rfl) 5 (v := .int .i64 fl) rfl
  have k6 := cell_blk (H4.out.blkAt 2 rfl) 6 (v := .int .i64 sh) rfl
  have k7 := cell_blk (H4.out.blkAt 2 rfl) 7 (v := .int .i64 8) rfl
  have k8 := cell_blk (H4.out.blkAt 2 rfl) 8 (v := .int .i64 1) rfl
  have k9 := cell_blk (H4.out.blkAt 2 rfl) 9 (v := .int .i64 2) rfl
  have k10 := cell_blk (H4.out.blkAt 2 rfl) 10 (v := .int .i64 12) rfl
  have k11 := cell_blk (H4.out.blkAt 2 rfl) 11 (v := .int .i64 8) rfl
  have k12 := cell_blk (H4.out.blkAt 2 rfl) 12 (v := .int .i64 6) rfl
  have k13 := cell_blk (H4.out.blkAt 2 rfl) 13 (v := .int .i64 2) rfl
  have k14 := cell_blk (H4.out.blkAt 2 rfl) 14 (v := .int .i64 6) rfl
  have HX := Lib.hid (node_new fl sh g1 g2 g3 g4 0 nt (by omega) (by omega) H4.out)
  go_wp2_with fail
  refine HX.out.mono ?_
  rintro e w5 ⟨x, rfl, hid, hnt, hfl, hsh, hok, h5⟩
  subst hnt
  have HQ := Lib.hid (nq_new hid hok h5)
  rw [hfl, hsh] at HQ
  clear hid hfl hsh hok h5 HX H4 k0 k1 k2 k3 k4 k5 k6 k7 k8 k9 k10 k11 k12 k13 k14
  generalize x.p = p at *
  generalize x.nt = nt at *
  by_cases hl : 300 < bs.length
  · have hlI : decide ((300 : Int) < (bs.length : Int)) = true := by simp; omega
    go_wp2_with fail
    refine (wakes21_any _).mono ?_
    rintro e w6 ⟨rfl, hu⟩
    have H6 := Lib.hid ((NQ.ss_at HQ.out).upd0 hu)
    clear hu HQ
    go_wp2_with fail
    go_ret
    exact ⟨rfl, Upd.of_below H6.out.below⟩
  · have hlI : decide ((300 : Int) < (bs.length : Int)) = false := by simp; omega
    have c5 := cell_blk ((NQ.ss_at HQ.out).blkAt 0 rfl) 5 (v := .int .i64 fl) rfl
    have hm := emod_in a2 (2 * fl + 4) (by omega)
    go_wp2_with fail
    refine (Within_any a2 (2 * fl + 4) _ (by omega) (by omega)).mono ?_
    rintro e w' ⟨rfl, rfl⟩
    obtain ⟨n, hn⟩ : ∃ n : Nat, a2 % (2 * fl + 4) = n := ⟨(a2 % (2 * fl + 4)).toNat, by omega⟩
    rw [hn]
    have hn2 : n ≤ 140 := by omega
    clear hm hn c5
    have H0 : Hid (NQ W.heap.size W w5 p nt nm fl sh 0 (bdK fl 0) (shK fl 0) (peersK fl sh 0) [blk c (cfgB fl sh)]) := Lib.hid (by
      have e1 : bdK fl 0 = 0 := by unfold bdK; omega
      have e2 : shK fl 0 = 0 := by unfold shK; omega
      rw [e1, e2]
      exact HQ.out)
    clear HQ
    go_wp2_with fail
    go_loopw [13] (fun i wr => ∃ k : Nat, k ≤ n ∧ i = .int .i64 k ∧ Hid (NQ W.heap.size W wr p nt nm fl sh 0 (bdK fl k) (shK fl k) (peersK fl sh k) [blk c (cfgB fl sh)])) (fun i _ => n - (intOf i).toNat)
    case atStart => exact ⟨0, by omega, rfl, H0⟩
    case round =>
      clear H0
      obtain ⟨k, hk, rfl, H⟩ := hrel
      by_cases hlt : k < n
      · have hkI : (k : Int) < (n : Int) := by omega
        go_upto_region 13 with fail
        have HBw := HB.out.upd (Upd.of_below H.out.below)
        have hr := HBw.1.upd (M := []) ((Upd.refl _ _).alloc (.cells #[.int .u8 255, .int .u8 255, .int .u8 255] 5 (0, 0))) (by simp)
        have HRD := Lib.hid hr
        have HW := Lib.hid (own_blk_row (n := 3) (sz := 1) ((Own.start (Below.refl wr.heap.size wr) (Nat.le_refl _)).box (.cells #[.int .u8 255, .int .u8 255, .int .u8 255] 5 (0, 0))) rfl (by decide))
        have HON : Hid (∀ u ∈ bs.map (fun c : Nat => Value.int .u8 (c : Int)), u.oneCell' = true) := Lib.hid (by intro u hu; obtain ⟨c, -, rfl⟩ := List.mem_map.1 hu; rfl)
        have HMX : Hid (3 + bs.length ≤ maxLen) := Lib.hid (by unfold maxLen; omega)
        have HM1 : Hid ((3 + bs.length) * 1 ≤ 140737488355328) := Lib.hid (by omega)
        have HB2 := Lib.hid HBw.2
        clear hr HBw
        go_wp2_with (at_builtin; refine wpList_append_row rfl (.tmp 66) (.tmp 67) 60 rfl 5 i0 (.int .u8 0) 1 1 Tryz.underlying60 hi hz0 hz1 hz2 rfl (by decide) _ 3 _ rfl HW.out _ bs.length _ rfl HRD.out HON.out HMX.out HM1.out ?_)
        intro v' w' hw'
        have hbyt : Byt w' v' ([255, 255, 255] ++ bs) := ⟨by
          have h9 := owns_reads (ownR_owns hw'.head)
          rw [List.map_append, List.length_append]
          exact h9, by
          intro c hc
          rcases List.mem_append.1 hc with h | h
          · simp at h; omega
          · exact HB2.out c h⟩
        have H2 := H.out.upd0 (Upd.of_below hw'.below)
        have HT := Lib.hid (nq_more k hbyt (by simp; omega) g1 g2 g3 g4 (by omega) H2)
        clear hw' hbyt H2 HRD HW HON HMX HM1 HB2
        go_wp2_with fail
        refine HT.out.mono ?_
        rintro e w6 ⟨rfl, h6⟩
        have H6 := Lib.hid h6
        clear h6 HT
        go_wp2_with fail
        go_roundw
        case rel => exact ⟨k + 1, by omega, by go_num, H6⟩
        case measure => simp [intOf]; omega
      · have hkI : decide ((k : Int) < (n : Int)) = false := by simp; omega
        obtain rfl : k = n := by omega
        have c5 := cell_blk ((NQ.ss_at H.out).blkAt 0 rfl) 5 (v := .int .i64 fl) rfl
        go_upto_region 15 with fail
        have hbd : (if fl + 1 < (k : Int) then fl + 1 else (k : Int)) = bdK fl k := by unfold bdK; split <;> omega
        have hst : (if (k : Int) - fl - 1 < 0 then 0 else (k : Int) - fl - 1) = shK fl k := by unfold shK; split <;> omega
        have hps := peersK_ok (sh := sh) g1 k
        have hpl := peersK_len fl sh k
        have hb0 : 0 ≤ bdK fl k ∧ bdK fl k ≤ 100 := by unfold bdK; omega
        have H2 := Lib.hid (H.out.box (cntO (bdK fl k) (shK fl k)))
        rw [hbd, hst]
        clear hbd hst c5 H
        generalize hq : wr.heap.size = q at *
        generalize World.alloc wr _ = w6 at *
        clear hq
        have HPS := Lib.hid hps
        clear hps
        generalize bdK fl k = bd at *
        generalize shK fl k = sht at *
        have d0 := cnt_cells (H2.out.upd0 (Upd.refl _ _).drew)
        have HC := Lib.hid (nq_counts (H2.out.upd0 (Upd.refl _ _).drew))
        have heq := run_equal_cnt bd sht
        have hgd := Tryz.guardCnt
        unfold cntA at heq
        go_region_held3 (fun w' => w'.cell? ⟨q, 0, none⟩ = some (.int .i64 0) ∧ w'.cell? ⟨q, 1, none⟩ = some (.int .i64 bd) ∧ w'.cell? ⟨q, 2, none⟩ = some (.int .i64 0) ∧ w'.cell? ⟨q, 3, none⟩ = some (.int .i64 sht) ∧ w'.cell? ⟨q, 4, none⟩ = some (.int .i64 0))
          (first | (with_reducible exact d0) | (with_reducible exact d1) | (with_reducible exact d2))
          (first | (go_at_call 47; refine HC.out.mono ?_; rintro e w7 ⟨rfl, hu⟩; have H3 := Lib.hid ((H2.out.upd0 (Upd.refl _ _).drew).upd0 hu); clear hu; have d1 := cnt_cells H3.out) | (go_at_call 24; refine (nq_view H3.out).mono ?_; rintro e w' ⟨rfl, rfl⟩) | (go_at_call 26; refine (nq_out H3.out).mono ?_; rintro e w8 ⟨rfl, h8⟩; have H8 := Lib.hid h8; clear h8; have d2 := cnt_cells H8.out) | (go_at_call 44; refine (nq_len H8.out).mono ?_; rintro e w' ⟨rfl, rfl⟩))
        have hs2 := (peersK_two fl sh k).1
        have hb2 := (peersK_two fl sh k).2
        have HE := Lib.hid (peersK_end (fl := fl) g3 g4 k)
        have HOK2 : Hid (∀ z ∈ peersK fl sh k ++ [⟨2, 1, 0⟩], 0 ≤ z.bad ∧ z.bad ≤ fl) := Lib.hid (by
          intro z hz
          rcases List.mem_append.1 hz with h | h
          · exact HPS.out z h
          · simp at h; subst h; exact ⟨by simp, by simpa using g1⟩)
        have HT := Lib.hid (nq_bad (x := 2) (byt_nil _) (by simp) g1 g2 g3 g4 HPS.out (by omega) hb0.1 (by omega) hs2 H8.out)
        rw [hb2] at HT
        have HL2 : Hid ((peersK fl sh k ++ [(⟨2, 1, 0⟩ : Peer)]).length ≤ 1000) := Lib.hid (by simp; omega)
        clear hs2 hb2 d0 d1 d2 HC H2 H3 HPS heq
        generalize peersK fl sh k ++ [⟨2, 1, 0⟩] = ps2 at *
        go_wp2_with fail
        refine HT.out.mono ?_
        rintro e w9 ⟨rfl, h9⟩
        have H9 := Lib.hid h9
        clear h9 HT H8
        obtain ⟨y0, y1, y2, y3, y4⟩ := And.intro (cell_blk (H9.out.ss_at.blkAt 0 rfl) 0 (v := .int .i64 0) rfl) (And.intro (cell_blk (H9.out.ss_at.blkAt 0 rfl) 1 (v := .int .i64 bd) rfl) (And.intro trivial (And.intro trivial trivial)))
        have z1 := block_frozen (H9.out.ss_at.blkAt 0 rfl) 1
        have H10 := Lib.hid (H9.out.put 1 (.int .i64 (bd + 1)) (o' := cntO (bd + 1) sht) rfl)
        go_upto_region 19 with fail
        clear H9 y0 y1 y2 y3 y4 z1
        generalize World.setCell _ _ _ = w10 at *
        have d0 := cnt_cells (H10.out.upd0 (Upd.refl _ _).drew)
        have HC := Lib.hid (nq_counts (H10.out.upd0 (Upd.refl _ _).drew))
        have heq := run_equal_cnt (bd + 1) sht
        unfold cntA at heq
        go_region_held3 (fun w' => w'.cell? ⟨q, 0, none⟩ = some (.int .i64 0) ∧ w'.cell? ⟨q, 1, none⟩ = some (.int .i64 (bd + 1)) ∧ w'.cell? ⟨q, 2, none⟩ = some (.int .i64 0) ∧ w'.cell? ⟨q, 3, none⟩ = some (.int .i64 sht) ∧ w'.cell? ⟨q, 4, none⟩ = some (.int .i64 0))
          (first | (with_reducible exact d0) | (with_reducible exact d1))
          (first | (go_at_call 47; refine HC.out.mono ?_; rintro e w11 ⟨rfl, hu⟩; have H11 := Lib.hid ((H10.out.upd0 (Upd.refl _ _).drew).upd0 hu); clear hu; have d1 := cnt_cells H11.out))
        clear d0 d1 HC heq H10
        obtain ⟨N, hN⟩ : ∃ N : Nat, sh = N := ⟨sh.toNat, by omega⟩
        have HNN := Lib.hid hN
        clear hN
        go_wp2_with fail
        go_loopw [15] (fun i wr => ∃ j : Nat, j ≤ N ∧ i = .int .i64 j ∧ Hid (NQ W.heap.size W wr p nt nm fl sh j (bd + 1) sht ps2 [blk q (cntO (bd + 1) sht), blk c (cfgB fl sh)])) (fun i _ => N - (intOf i).toNat)
        case atStart => exact ⟨0, by omega, rfl, H11⟩
        case round =>
          clear H11
          obtain ⟨j, hj, rfl, H⟩ := hrel
          have c6 := cell_blk (H.out.ss_at.blkAt 1 rfl) 6 (v := .int .i64 sh) rfl
          by_cases hlj : j < N
          · have hjI : (j : Int) < sh := by have := HNN.out; omega
            have HK := Lib.hid (nq_tick (by omega) (by omega) H.out)
            go_wp2_with fail
            refine HK.out.mono ?_
            rintro e w12 ⟨rfl, h12⟩
            have H12 := Lib.hid h12
            clear h12 HK c6
            go_wp2_with fail
            go_roundw
            case rel => exact ⟨j + 1, by omega, by go_num, H12⟩
            case measure => simp [intOf]; omega
          · have hjI : decide ((j : Int) < sh) = false := by have := HNN.out; simp; omega
            have hjN : (j : Int) = sh := by have := HNN.out; omega
            have H13 := Lib.hid (hjN ▸ H.out : NQ W.heap.size W wr p nt nm fl sh sh (bd + 1) sht ps2 [blk q (cntO (bd + 1) sht), blk c (cfgB fl sh)])
            have HT := Lib.hid (nq_bad (x := 1) (byt_nil _) (by simp) g1 g2 g3 g4 HOK2.out HL2.out (by omega) (by omega) HE.out H13.out)
            clear H13 hjN
            go_wp2_with fail
            refine HT.out.mono ?_
            rintro e w14 ⟨rfl, h14⟩
            have H14 := Lib.hid h14
            clear h14 HT H c6
            generalize bumpP fl sh sh 1 ps2 = ps3 at *
            have y1 := cell_blk (H14.out.ss_at.blkAt 0 rfl) 1 (v := .int .i64 (bd + 1)) rfl
            have z1 := block_frozen (H14.out.ss_at.blkAt 0 rfl) 1
            have hbb : bd + 1 + 1 = bd + 2 := by omega
            have H15 := Lib.hid (H14.out.put 1 (.int .i64 (bd + 1 + 1)) (o' := cntO (bd + 1 + 1) sht) rfl)
            clear hbb
            go_upto_region 27 with fail
            clear H14 y1 z1
            generalize World.setCell _ _ _ = w15 at *
            have d0 := cnt_cells (H15.out.upd0 (Upd.refl _ _).drew)
            have HC := Lib.hid (nq_counts (H15.out.upd0 (Upd.refl _ _).drew))
            have heq := run_equal_cnt (bd + 1 + 1) sht
            unfold cntA at heq
            go_region_held3 (fun w' => w'.cell? ⟨q, 0, none⟩ = some (.int .i64 0) ∧ w'.cell? ⟨q, 1, none⟩ = some (.int .i64 (bd + 1 + 1)) ∧ w'.cell? ⟨q, 2, none⟩ = some (.int .i64 0) ∧ w'.cell? ⟨q, 3, none⟩ = some (.int .i64 sht) ∧ w'.cell? ⟨q, 4, none⟩ = some (.int .i64 0))
              (first | (with_reducible exact d0) | (with_reducible exact d1) | (with_reducible exact d2))
              (first | (go_at_call 47; refine HC.out.mono ?_; rintro e w16 ⟨rfl, hu⟩; have H16 := Lib.hid ((H15.out.upd0 (Upd.refl _ _).drew).upd0 hu); clear hu; have d1 := cnt_cells H16.out) | (go_at_call 19; refine (wakes21_any _).mono ?_; rintro e w17 ⟨rfl, hu⟩; have H17 := Lib.hid (H16.out.upd0 hu); clear hu; have d2 := cnt_cells H17.out))
            go_wp2_with fail
            go_ret
            exact ⟨rfl, Upd.of_below H17.out.below⟩

end
end Go.Proofs.YtannckelmojkoaaGreat

/- The closed facts on the whole program that every law's row asks, each a lemma of its own. No condition. -/
namespace Go.Proofs.YtannckelmojkoaaGreat.Ov
open Go

theorem laid : laidOutB Tryz.pinned.checked.prog = true := by kernel_rfl
theorem maps : mapsRowed Tryz.pinned.checked.prog = true := by kernel_rfl
theorem stops : (Tryz.pinned.checked.prog.stops == []) = true := by kernel_rfl
theorem stopKnobs : (Tryz.pinned.checked.prog.stopKnobs == []) = true := by kernel_rfl
theorem heard : Tryz.pinned.checked.prog.stopsHeard = true := by kernel_rfl
theorem lifts : Tryz.pinned.checked.prog.liftsFinal = false := by kernel_rfl
theorem make : (Tryz.pinned.checked.prog.make == some Make.cut) = true := by kernel_rfl
theorem plain : Tryz.pinned.checked.prog.plainKeys = false := by kernel_rfl
theorem enter : Tryz.pinned.checked.prog.mayEnter = true := by kernel_rfl

theorem band {a b : Bool} (ha : a = true) (hb : b = true) : (a && b) = true := by rw [ha, hb]; rfl

end Go.Proofs.YtannckelmojkoaaGreat.Ov
