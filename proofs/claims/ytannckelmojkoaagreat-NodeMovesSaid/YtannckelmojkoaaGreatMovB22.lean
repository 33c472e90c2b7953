/- Parts of the proof, one behind the other. -/
import Derived.Test.YtannckelmojkoaaGreatMovB21

/- psephosref01.Notary: Seal. -/
namespace Go.Proofs.YtannckelmojkoaaGreat
open Go.RowKit Go.Heap

theorem Tryz.infoI64n : (Tryz.prog.info? 3).map (fun i => (i.zero, i.size, i.bytes)) = some (some (.int .i64 0), 1, 8) := by kernel_rfl
theorem Tryz.infoStn : (Tryz.prog.info? 9).map (fun i => (i.zero, i.size, i.bytes)) = some (some (.string ByteArray.empty), 1, 16) := by kernel_rfl

section
variable {B : Nat} {w0 w W W' : World} {ss rs : List Res} {rn : Nat} {vp vt v bv : Value} {l : Nt}

set_option maxHeartbeats 4000000 in
set_option maxRecDepth 100000 in
theorem rseal_any {party : Int} {bs : Bys} (h : Own B w0 W (rnR rn vp vt l (bysR bv bs :: ss))) (hl : NtOk l) (hx : SOk (party, bs)) (hn : l.length ≤ 1000000000) :
    Calls Tryz.prog 130 #[.pointer (some ⟨rn, 0, none⟩), .int .i64 party, bv] W fun e w' => e = .returned (.int .i64 (sealN l party bs)) ∧ ∃ vp' vt', Own B w0 w' (rnR rn vp' vt' (sealL l party bs) (bysR bv bs :: ss)) := by
  obtain ⟨i0, hi, hz0, hz1, hz2⟩ := info_parts Tryz.infoI64n
  obtain ⟨j0, hj, hy0, hy1, hy2⟩ := info_parts Tryz.infoStn
  have H := Lib.hid h
  have HF := Lib.hid (rfind_any (rn_at h) hl hx ⟨bys_reads (k := 3) h rfl, hx.b⟩ hn)
  have HXB := Lib.hid hx.b
  obtain ⟨co, ccap, rfl, -, -⟩ := bys_reads (k := 3) h rfl
  obtain ⟨ao, cap, rfl, -, -⟩ := (rn_at h).p
  obtain ⟨bo, bcap, rfl, -, -⟩ := (rn_at h).t
  clear h hx hl
  by_cases hm : (party, bs) ∈ l
  · have e1 : findN l party bs = sealN l party bs := by unfold findN; rw [if_pos hm]
    have e2 : sealL l party bs = l := by unfold sealL; rw [if_pos hm]
    have e3 : decide ((party, bs) ∈ l) = true := by simp [hm]
    rw [e1, e3] at HF
    have E2 := Lib.hid e2
    clear e1 e2 e3
    go_enter Tryz.func130, Tryz.ntmps130
    go_wp2_with fail
    refine HF.out.mono ?_
    rintro e w1 ⟨rfl, rfl⟩
    clear HF
    go_wp2_with fail
    go_ret
    rw [E2.out]
    exact ⟨rfl, _, _, H.out⟩
  · have e1 : findN l party bs = 0 := by unfold findN; rw [if_neg hm]
    have e2 : sealL l party bs = l ++ [(party, bs)] := by unfold sealL; rw [if_neg hm]
    have e3 : decide ((party, bs) ∈ l) = false := by simp [hm]
    have e4 : sealN l party bs = (l.length : Int) + 1 := by
      unfold sealN
      rw [List.idxOf_eq_length (by simpa using hm)]
    rw [e1, e3] at HF
    have E2 := Lib.hid e2
    have E4 := Lib.hid e4
    have HA := Lib.hid (H.out.box (.cells #[.int .i64 party] 3 (0, 0)))
    have HN := Lib.hid (heap_alloc_new W (.cells #[.int .i64 party] 3 (0, 0)))
    have x0 : W.cell? ⟨rn, 0, none⟩ = some (.slice ao l.length cap) := cell_blk (H.out.blkAt 0 rfl) 0 rfl
    clear e1 e2 e3 e4 hm H
    go_enter Tryz.func130, Tryz.ntmps130
    go_wp2_with fail
    refine HF.out.mono ?_
    rintro e w1 ⟨rfl, rfl⟩
    clear HF
    go_wp2_with (at_builtin; refine wpList_push rfl (.tmp 22) (.tmp 24) 69 rfl 3 i0 (.int .i64 0) 1 8 Tryz.underlying69 hi hz0 hz1 hz2 rfl (by decide) HA.out 2 (.slice ao l.length cap) l.length (ntP l) rfl rfl W.heap.size #[.int .i64 party] 3 (0, 0) rfl HN.out rfl (by simp [Value.oneCell']) (by unfold maxLen; omega) (by omega) ?_)
    intro g1 cap1 w2 h2
    have h3 : Own B w0 w2 (blk rn (rnO (.slice ao l.length cap) (.slice bo l.length bcap)) :: ownR 3 1 (.slice (some ⟨g1, 0, none⟩) (l.length + 1) cap1) (l.length + 1) (ntP l ++ [.int .i64 party]) :: ownR 9 1 (.slice bo l.length bcap) l.length (ntT l) :: bysR (.slice co bs.length ccap) bs :: ss) := h2.drop
    have z3 := block_frozen (h3.blkAt 0 rfl) 0
    have y3 : w2.cell? ⟨rn, 0, none⟩ = some (.slice ao l.length cap) := cell_blk (h3.blkAt 0 rfl) 0 rfl
    have H4 := Lib.hid (Own.storeTo h3 0 (.slice (some ⟨g1, 0, none⟩) (l.length + 1) cap1) rfl)
    clear h2 h3 HA HN x0
    go_wp2_with fail
    generalize w2.setCell ⟨rn, 0, none⟩ (.slice (some ⟨g1, 0, none⟩) (l.length + 1) cap1) = w4 at *
    have h5 : Own B w0 w4.drew (blk rn (rnO (.slice (some ⟨g1, 0, none⟩) (l.length + 1) cap1) (.slice bo l.length bcap)) :: ownR 3 1 (.slice (some ⟨g1, 0, none⟩) (l.length + 1) cap1) (l.length + 1) (ntP l ++ [.int .i64 party]) :: ownR 9 1 (.slice bo l.length bcap) l.length (ntT l) :: bysR (.slice co bs.length ccap) bs :: ss) := H4.out.drew
    clear H4 z3 y3
    have d1 : w4.drew.cell? ⟨rn, 1, none⟩ = some (.slice bo l.length bcap) := cell_blk (h5.blkAt 0 rfl) 1 rfl
    have hcv := run_conv (bs := bs) (v := .slice co bs.length ccap) (w := w4.drew) ⟨bys_reads (k := 3) h5 rfl, HXB.out⟩
    have HB := Lib.hid (h5.box (.cells #[.string (txt bs)] 9 (0, 0)))
    have HN := Lib.hid (heap_alloc_new w4.drew (.cells #[.string (txt bs)] 9 (0, 0)))
    clear h5
    refine Held.wp_held [(rn, 1, [.slice bo l.length bcap])] [(4, 0)] [11] [(7, true), (2, true)] (by kernel_rfl) (by kernel_rfl) ⟨⟨d1, trivial⟩, trivial⟩ ?_
    simp only [Held.cutAt, Held.walk, List.take_succ_cons, List.take_zero, List.drop_succ_cons, List.drop_zero]
    go_wp2_with fail
    refine ⟨⟨⟨d1, trivial⟩, trivial⟩, ?_⟩
    go_wp2_with (at_builtin; refine wpList_push rfl (.tmp 32) (.tmp 35) 70 rfl 9 j0 (.string ByteArray.empty) 1 16 Tryz.underlying70 hj hy0 hy1 hy2 rfl (by decide) HB.out 3 (.slice bo l.length bcap) l.length (ntT l) rfl rfl w4.drew.heap.size #[.string (txt bs)] 9 (0, 0) rfl HN.out rfl (by simp [Value.oneCell']) (by unfold maxLen; omega) (by omega) ?_)
    intro g2 cap2 w5 h6
    have h7 : Own B w0 w5 (blk rn (rnO (.slice (some ⟨g1, 0, none⟩) (l.length + 1) cap1) (.slice bo l.length bcap)) :: ownR 3 1 (.slice (some ⟨g1, 0, none⟩) (l.length + 1) cap1) (l.length + 1) (ntP l ++ [.int .i64 party]) :: ownR 9 1 (.slice (some ⟨g2, 0, none⟩) (l.length + 1) cap2) (l.length + 1) (ntT l ++ [.string (txt bs)]) :: bysR (.slice co bs.length ccap) bs :: ss) := h6.drop
    have z7 := block_frozen (h7.blkAt 0 rfl) 1
    have y7 : w5.cell? ⟨rn, 1, none⟩ = some (.slice bo l.length bcap) := cell_blk (h7.blkAt 0 rfl) 1 rfl
    have H8 := Lib.hid (Own.storeTo h7 1 (.slice (some ⟨g2, 0, none⟩) (l.length + 1) cap2) rfl)
    clear h6 h7 HB HN hcv d1
    go_wp2_with fail
    refine ⟨⟨⟨y7, trivial⟩, trivial⟩, ?_⟩
    go_wp2_with fail
    refine ⟨trivial, by rfl, ⟨⟨rfl, .inl ⟨by kernel_rfl, rfl⟩⟩, trivial⟩, ?_⟩
    generalize w5.setCell ⟨rn, 1, none⟩ (.slice (some ⟨g2, 0, none⟩) (l.length + 1) cap2) = w6 at *
    have q0 : w6.cell? ⟨rn, 0, none⟩ = some (.slice (some ⟨g1, 0, none⟩) (l.length + 1) cap1) := cell_blk (H8.out.blkAt 0 rfl) 0 rfl
    clear y7 z7
    go_wp2_with fail
    go_ret
    rw [E2.out, E4.out]
    refine ⟨by simp, .slice (some ⟨g1, 0, none⟩) (l.length + 1) cap1, .slice (some ⟨g2, 0, none⟩) (l.length + 1) cap2, ?_⟩
    have := H8.out
    simpa [rnR, rnO, ntP, ntT, setIn] using this

end
end Go.Proofs.YtannckelmojkoaaGreat

/- psephoslaw06.Two: Seal, Req, Msg. -/
namespace Go.Proofs.YtannckelmojkoaaGreat
open Go.RowKit Go.Heap

abbrev twA (nt rn : Nat) : Array Value := #[.pointer (some ⟨nt, 0, none⟩), .pointer (some ⟨rn, 0, none⟩)]
abbrev twO (nt rn : Nat) : Obj := .cells (twA nt rn) 28 (0, 0)
/-- Two notaries that have sealed the same. -/
abbrev twR (nt nm rn : Nat) (vp vt : Value) (l : Nt) (ss : List Res) : List Res := blk nt (noB nm) :: ntR nm l :: rnR rn vp vt l ss
/-- A node's seal of a message. -/
def msS (l : Nt) (m : Ms) : Int := match bodyP m with
  | none => 0
  | some b => sealN l m.fm b
section
variable {B : Nat} {w0 w W W' : World} {ss rs : List Res} {nt nm rn : Nat} {vp vt v bv : Value} {l : Nt}

set_option maxHeartbeats 4000000 in
set_option maxRecDepth 100000 in
theorem twSeal_any {party : Int} {bs : Bys} (h : Own B w0 W (twR nt nm rn vp vt l (bysR bv bs :: ss))) (hl : NtOk l) (hx : SOk (party, bs)) (hn : l.length ≤ 1000000000) :
    Calls Tryz.prog 72 #[.agg (twA nt rn), .int .i64 party, bv] W fun e w' => e = .returned (.int .i64 (sealN l party bs)) ∧ ∃ vp' vt', Own B w0 w' (twR nt nm rn vp' vt' (sealL l party bs) (bysR bv bs :: ss)) := by
  have h1 : Own B w0 (W.alloc (twO nt rn)) (rnR rn vp vt l (bysR bv bs :: blk W.heap.size (twO nt rn) :: blk nt (noB nm) :: ntR nm l :: ss)) := (h.box (twO nt rn)).perm ((List.perm_append_comm (l₁ := [_, _, _]) (l₂ := [_, _, _, _])).append_right ss)
  have HS := Lib.hid (rseal_any h1 hl hx hn)
  have x1 : (W.alloc (twO nt rn)).cell? ⟨W.heap.size, 1, none⟩ = some (.pointer (some ⟨rn, 0, none⟩)) := cell_blk (h1.blkAt 4 rfl) 1 rfl
  have HL := Lib.hid hl
  have HX := Lib.hid hx
  obtain ⟨co, ccap, rfl, -, -⟩ := bys_reads (k := 3) h1 rfl
  clear h h1 hl hx
  go_enter Tryz.func72, Tryz.ntmps72
  go_wp2_with fail
  refine HS.out.mono ?_
  rintro e w1 ⟨rfl, vp', vt', h2⟩
  have h3 : Own B w0 w1 (blk W.heap.size (twO nt rn) :: blk nt (noB nm) :: ntR nm l :: rnR rn vp' vt' (sealL l party bs) (bysR (.slice co bs.length ccap) bs :: ss)) := h2.perm ((List.perm_append_comm (l₁ := [_, _, _, _]) (l₂ := [_, _, _])).append_right ss)
  have x0 : w1.cell? ⟨W.heap.size, 0, none⟩ = some (.pointer (some ⟨nt, 0, none⟩)) := cell_blk (h3.blkAt 0 rfl) 0 rfl
  have hby : Byt w1 (.slice co bs.length ccap) bs := ⟨bys_reads (k := 6) h3 rfl, HX.out.b⟩
  have HC := Lib.hid (seal_any h3.drop HL.out HX.out hby hn)
  clear h2 h3 hby HS x1
  go_wp2_with fail
  refine HC.out.mono ?_
  rintro e w2 ⟨rfl, h4⟩
  have H4 := Lib.hid h4
  clear h4 HC
  go_wp2_with fail
  go_ret
  exact ⟨rfl, vp', vt', H4.out⟩

end
end Go.Proofs.YtannckelmojkoaaGreat

/- psephoslaw06.Two: Req. -/
namespace Go.Proofs.YtannckelmojkoaaGreat
open Go.RowKit Go.Heap

section
variable {B : Nat} {w0 w W W' : World} {ss rs : List Res} {nt nm rn : Nat} {vp vt v bv : Value} {l : Nt}

end
end Go.Proofs.YtannckelmojkoaaGreat

/- psephosref01.Notary: Check. -/
namespace Go.Proofs.YtannckelmojkoaaGreat
open Go.RowKit Go.Heap

/-- Whether it is this party's seal of these bytes. -/
def chkN (l : Nt) (p : Int) (b : Bys) (sl : Int) : Bool := decide ((p, b) ∈ l) && (findN l p b == sl)
theorem chk_out {l : Nt} {p sl : Int} {b : Bys} (h : sl < 1 ∨ (l.length : Int) < sl) : chkN l p b sl = false := by
  unfold chkN findN
  by_cases hm : (p, b) ∈ l
  · have hi := List.idxOf_lt_length_of_mem hm
    rw [if_pos hm]
    unfold sealN
    simp only [Bool.and_eq_false_iff, beq_eq_false_iff_ne]
    right; omega
  · simp [hm]
theorem chk_at {l : Nt} (hl : NtOk l) {p : Int} {b : Bys} {k : Nat} (hk : k < l.length) : chkN l p b ((k : Int) + 1) = decide (l[k] = (p, b)) := by
  unfold chkN findN
  by_cases e : l[k] = (p, b)
  · have hm : (p, b) ∈ l := e ▸ List.getElem_mem hk
    have hi : l.idxOf (p, b) = k := idx_of_nodup l k hk e (fun j hj hjk e2 => List.pairwise_iff_getElem.1 hl.1 j k hj hk hjk (e2.trans e.symm))
    rw [if_pos hm]
    unfold sealN
    rw [hi]; simp [hm, e]
  · by_cases hm : (p, b) ∈ l
    · rw [if_pos hm]
      unfold sealN
      have hne : l.idxOf (p, b) ≠ k := fun h => e (by
        have h2 := List.idxOf_lt_length_of_mem hm
        have h3 : l[l.idxOf (p, b)]'h2 = (p, b) := List.getElem_idxOf h2
        subst h; exact h3)
      simp only [e, decide_false, Bool.and_eq_false_iff, beq_eq_false_iff_ne]
      right; omega
    · simp [hm, e]

section
variable {B : Nat} {w0 w W W' : World} {ss rs : List Res} {rn : Nat} {vp vt v bv : Value} {l : Nt}

set_option maxHeartbeats 4000000 in
set_option maxRecDepth 100000 in
theorem rcheck_any {party sl : Int} {bs : Bys} (h : RnAt W rn vp vt l) (hl : NtOk l) (hx : SOk (party, bs)) (hb : Byt W bv bs) (hn : l.length ≤ 1000000000) :
    Calls Tryz.prog 190 #[.pointer (some ⟨rn, 0, none⟩), .int .i64 party, bv, .int .i64 sl] W fun e w' => e = .returned (.bool (chkN l party bs sl)) ∧ Upd [] W w' := by
  have hcv : ∀ n, (convert 60 9 bv).run Tryz.prog (W.drewN n) = .ok (.string (txt bs)) (W.drewN n) := fun n => run_conv (hb.upd ((Upd.refl _ _).drewN n))
  obtain ⟨ho, hp, ht⟩ := h
  have x0 : W.cell? ⟨rn, 0, none⟩ = some vp := cell_blk ho 0 rfl
  have x1 : W.cell? ⟨rn, 1, none⟩ = some vt := cell_blk ho 1 rfl
  have HP := Lib.hid hp
  have HT := Lib.hid ht
  have HL := Lib.hid hl
  have HX := Lib.hid hx
  obtain ⟨ao, cap, rfl, hcap, -⟩ := hp
  obtain ⟨bo, bcap, rfl, hbcap, -⟩ := ht
  obtain ⟨co, ccap, rfl, -, -⟩ := byt_form hb
  clear ho hb hl hx
  by_cases h1 : sl < 1
  · have HE := Lib.hid (chk_out (l := l) (p := party) (b := bs) (.inl h1))
    have g1 : decide ((1 : Int) ≤ sl) = false := by simp; omega
    clear HP HT HL HX
    go_enter Tryz.func190, Tryz.ntmps190
    go_wp2_with fail
    go_quiet (fail)
    go_wp2_with fail
    go_ret
    rw [HE.out]
    exact ⟨rfl, (Upd.refl _ _).drewN _⟩
  have g1 : (1 : Int) ≤ sl := by omega
  by_cases h2 : (l.length : Int) < sl
  · have HE := Lib.hid (chk_out (l := l) (p := party) (b := bs) (.inr h2))
    have g2 : decide (sl ≤ (l.length : Int)) = false := by simp; omega
    clear HP HT HL HX
    go_enter Tryz.func190, Tryz.ntmps190
    go_wp2_with fail
    go_quiet (fail)
    go_wp2_with fail
    go_ret
    rw [HE.out]
    exact ⟨rfl, (Upd.refl _ _).drewN _⟩
  have g2 : sl ≤ (l.length : Int) := by omega
  obtain ⟨k, rfl⟩ : ∃ k : Nat, sl = (k : Int) + 1 := ⟨(sl - 1).toNat, by omega⟩
  have hlt : k < l.length := by omega
  have g3 : (k : Int) + 1 - 1 = (k : Int) := by omega
  have hkI : (k : Int) < (l.length : Int) := by omega
  have hk0 : (0 : Int) ≤ (k : Int) := by omega
  have hcI : (l.length : Int) ≤ (cap : Int) := by omega
  have hcI2 : (l.length : Int) ≤ (bcap : Int) := by omega
  have hnI : (l.length : Int) ≤ 1000000000 := by omega
  obtain ⟨ao', cap', e0, -, -, -, -, h5⟩ := HP.out
  simp only [Value.slice.injEq, true_and] at e0
  obtain ⟨rfl, -⟩ := e0
  obtain ⟨b, o, rfl, -, hc⟩ := h5 (by omega)
  obtain ⟨bo', bcap', e1, -, -, -, -, h6⟩ := HT.out
  simp only [Value.slice.injEq, true_and] at e1
  obtain ⟨rfl, -⟩ := e1
  obtain ⟨b2, o2, rfl, -, hc2⟩ := h6 (by omega)
  have r0 : W.cell? ⟨b, o + k, none⟩ = some (.int .i64 l[k].1) := by rw [hc k (by omega)]; simp [hlt]
  have r1 : W.cell? ⟨b2, o2 + k, none⟩ = some (.string (txt l[k].2)) := by rw [hc2 k (by omega)]; simp [hlt]
  have HB : Hid (txt l[k].2 = txt bs → l[k].2 = bs) := Lib.hid (fun e => txt_inj (HL.out.2 _ (List.getElem_mem hlt)).b HX.out.b e)
  have HE := Lib.hid (chk_at HL.out (p := party) (b := bs) hlt)
  have HK : Hid (decide (l[k] = (party, bs)) = (decide (l[k].1 = party) && decide (l[k].2 = bs))) := Lib.hid (by
    rw [Bool.eq_iff_iff]; simp [Prod.ext_iff])
  rw [HK.out] at HE
  clear hc h5 hc2 h6 HP HT HK
  generalize chkN l party bs ((k : Int) + 1) = res at *
  generalize l[k].1 = lp at *
  generalize l[k].2 = lb at *
  by_cases hpe : lp = party
  · by_cases hte : txt lb = txt bs
    · have HR : Hid (res = true) := Lib.hid (by rw [HE.out, hpe, HB.out hte]; simp)
      rw [hpe] at r0
      rw [hte] at r1
      clear HB HE hpe hte HL HX
      generalize txt bs = tb at *
      have g4 : (tb.toList == tb.toList) = true := by simp
      go_enter Tryz.func190, Tryz.ntmps190
      go_wp2_with fail
      go_quiet (fail)
      go_wp2_with fail
      go_ret
      rw [HR.out]
      exact ⟨rfl, (Upd.refl _ _).drewN _⟩
    · have HR : Hid (res = false) := Lib.hid (by rw [HE.out, decide_eq_false (fun e => hte (by rw [e]) : ¬ lb = bs), Bool.and_false])
      rw [hpe] at r0
      clear HB HE hpe HL HX
      generalize txt bs = tb at *
      generalize txt lb = tl at *
      have g4 := str_ne hte
      go_enter Tryz.func190, Tryz.ntmps190
      go_wp2_with fail
      go_quiet (fail)
      go_wp2_with fail
      go_ret
      rw [HR.out]
      exact ⟨rfl, (Upd.refl _ _).drewN _⟩
  · have HR : Hid (res = false) := Lib.hid (by rw [HE.out, decide_eq_false hpe, Bool.false_and])
    have g4 : (lp == party) = false := beq_eq_false_iff_ne.2 hpe
    clear HB HE HL HX
    generalize txt bs = tb at *
    generalize txt lb = tl at *
    go_enter Tryz.func190, Tryz.ntmps190
    go_wp2_with fail
    go_quiet (fail)
    go_wp2_with fail
    go_ret
    rw [HR.out]
    exact ⟨rfl, (Upd.refl _ _).drewN _⟩

end
end Go.Proofs.YtannckelmojkoaaGreat

/- psephoslaw21.give: a message is sealed and handed to Take. -/
namespace Go.Proofs.YtannckelmojkoaaGreat
open Go.RowKit Go.Heap

/-- The envelope that `give` hands in. -/
def givE (l : Nt) (fm : Int) (b : Bys) : Bys := bysO (envP (sealN l fm b) b)

section
variable {B : Nat} {w0 w W W' : World} {ss rs : List Res} {nt nm rn x : Nat} {vp vt v bv : Value} {l : Nt}

set_option maxHeartbeats 4000000 in
set_option maxRecDepth 100000 in
theorem give_any {m : Mm} {b : Bys} {K : World → Prop} (h : Own B w0 W (mmR m (twR nt nm rn vp vt l ss))) (hm : MmOk m) (hl : NtOk l) (hn : l.length ≤ 1000000000) (h1 : -9223372036854775808 ≤ m.fm) (h2 : m.fm ≤ 9223372036854775807) (hb : bodyP m.ms = some b)
    (hT : ∀ w1 ev vp' vt', Own B w0 w1 (bysR ev (givE l m.fm b) :: twR nt nm rn vp' vt' (sealL l m.fm b) (mmR m ss)) → Calls Tryz.prog 34 #[.pointer (some ⟨x, 0, none⟩), .int .i64 m.fm, ev] w1 fun e w' => e = .returned (.tuple #[]) ∧ K w') :
    Calls Tryz.prog 23 #[.pointer (some ⟨x, 0, none⟩), .agg (twA nt rn), .agg (mmA m)] W fun e w' => e = .returned (.tuple #[]) ∧ K w' := by
  have h7 : Own B w0 ((W.alloc (twO nt rn)).alloc (mmO m)) (mmR m (blk (W.heap.size + 1) (mmO m) :: blk W.heap.size (twO nt rn) :: twR nt nm rn vp vt l ss)) := by
    have h8 := (h.box (twO nt rn)).box (mmO m)
    rw [hs_alloc] at h8
    exact h8.perm ((List.perm_append_comm (l₁ := [_, _]) (l₂ := [_, _, _, _, _, _])).append_right (twR nt nm rn vp vt l ss))
  have HB := Lib.hid (rbody_any h7 hm)
  rw [hb] at HB
  have hsk : SOk (m.fm, b) := body_sok hb h1 h2
  have hbl : b.length ≤ 65536 := (body_byte hb).2
  have HK := Lib.hid hT
  have HL := Lib.hid hl
  have hb0 := h7.blkAt 6 rfl
  obtain ⟨kind, fm, view, inst, seq, res, vb, rs, vv, vs, vc, cts, vp2, pts⟩ := m
  obtain ⟨a1, c1, rfl⟩ : ∃ a c, vb = .slice a rs.length c := let ⟨a, c, e, _⟩ := red_reads (k := 5) h rfl; ⟨a, c, e⟩
  obtain ⟨a2, c2, rfl⟩ : ∃ a c, vv = .slice a vs.length c := let ⟨a, c, e, _⟩ := red_reads (k := 4) h rfl; ⟨a, c, e⟩
  obtain ⟨a3, c3, rfl⟩ : ∃ a c, vc = .slice a cts.length c := let ⟨a, c, e, _⟩ := red_reads (k := 2) h rfl; ⟨a, c, e⟩
  obtain ⟨a4, c4, rfl⟩ : ∃ a c, vp2 = .slice a pts.length c := let ⟨a, c, e, _⟩ := red_reads (k := 0) h rfl; ⟨a, c, e⟩
  simp only at h1 h2 hsk HK
  have x1 := cell_blk hb0 1 rfl
  have HX := Lib.hid hsk
  have HE : Hid (givE l fm b = bysO (envP (sealN l fm b) b)) := Lib.hid rfl
  clear h h7 hm hl hT hsk hb0 hb
  go_enter Tryz.func23, Tryz.ntmps23
  go_wp2_with fail
  refine HB.out.mono ?_
  rintro e w1 ⟨v1, rfl, h2⟩
  have y1 := cell_blk (h2.blkAt 7 rfl) 1 rfl
  have t0 := cell_blk (h2.blkAt 8 rfl) 0 rfl
  have t1 := cell_blk (h2.blkAt 8 rfl) 1 rfl
  obtain ⟨co, ccap, rfl, -, -⟩ := bys_reads (k := 0) h2 rfl
  have h3 : Own B w0 w1 (twR nt nm rn vp vt l (bysR (.slice co b.length ccap) b :: (mmR ⟨kind, fm, view, inst, seq, res, .slice a1 rs.length c1, rs, .slice a2 vs.length c2, vs, .slice a3 cts.length c3, cts, .slice a4 pts.length c4, pts⟩ (blk (W.heap.size + 1) _ :: ss)))) := (h2.dropAt 8 (by simp)).perm ((List.perm_append_comm (l₁ := [_, _, _, _, _, _, _, _]) (l₂ := [_, _, _, _, _])).append_right ss)
  have HSE := Lib.hid (twSeal_any h3 HL.out HX.out hn)
  clear h2 h3 HB x1
  simp only [Option.isSome_some]
  go_wp2_with fail
  refine HSE.out.mono ?_
  rintro e w2 ⟨rfl, vp', vt', h4⟩
  have z1 := cell_blk (h4.blkAt 12 rfl) 1 rfl
  have h5 : Own B w0 w2 (bysR (.slice co b.length ccap) b :: twR nt nm rn vp' vt' (sealL l fm b) (mmR ⟨kind, fm, view, inst, seq, res, .slice a1 rs.length c1, rs, .slice a2 vs.length c2, vs, .slice a3 cts.length c3, cts, .slice a4 pts.length c4, pts⟩ (blk (W.heap.size + 1) _ :: ss))) := h4.perm ((List.perm_append_comm (l₁ := [_, _, _, _, _]) (l₂ := [_])).append_right _)
  have HEN := Lib.hid (renv_any (sealN l fm b) h5 hbl)
  rw [← HE.out] at HEN
  clear h4 h5 HSE y1 t0 t1
  go_wp2_with fail
  refine HEN.out.mono ?_
  rintro e w3 ⟨v3, rfl, h6⟩
  have HTK := Lib.hid (HK.out w3 v3 vp' vt' ((h6.dropAt 1 (by simp)).dropAt 12 (by simp)))
  have q1 := cell_blk (h6.blkAt 13 rfl) 1 rfl
  clear h6 HEN z1
  go_wp2_with fail
  refine HTK.out.mono ?_
  rintro e w4 ⟨rfl, hk⟩
  have HF := Lib.hid hk
  clear hk HTK q1
  go_wp2_with fail
  exact bodyPost_end (results_none rfl _ _ _) rfl ⟨rfl, HF.out⟩

end
end Go.Proofs.YtannckelmojkoaaGreat

/- What msgs.Open gives for an envelope that `give` hands in (plain). -/
namespace Go.Proofs.YtannckelmojkoaaGreat
open Go.RowKit Go.Heap

theorem mem_sealL (l : Nt) (p : Int) (b : Bys) : (p, b) ∈ sealL l p b := by
  unfold sealL
  by_cases h : (p, b) ∈ l
  · rw [if_pos h]; exact h
  · rw [if_neg h]; simp
theorem sealN_sealL (l : Nt) (p : Int) (b : Bys) : sealN (sealL l p b) p b = sealN l p b := by
  unfold sealL
  by_cases h : (p, b) ∈ l
  · rw [if_pos h]
  · rw [if_neg h]
    unfold sealN
    rw [List.idxOf_append, if_neg h, List.idxOf_cons_self, List.idxOf_eq_length h]
    simp
theorem find_sealL (l : Nt) (p : Int) (b : Bys) : findN (sealL l p b) p b = sealN l p b := by
  unfold findN
  rw [if_pos (mem_sealL l p b), sealN_sealL]
theorem sealL_in {l : Nt} {x : Int × Bys} (p : Int) (b : Bys) (h : x ∈ l) : x ∈ sealL l p b := by
  unfold sealL
  split
  · exact h
  · exact List.mem_append.2 (.inl h)
theorem find_keep {l : Nt} {q : Int} {c : Bys} (p : Int) (b : Bys) (h : (q, c) ∈ l) : findN (sealL l p b) q c = findN l q c := by
  unfold findN
  rw [if_pos (sealL_in p b h), if_pos h]
  unfold sealN sealL
  split
  · rfl
  · rw [List.idxOf_append, if_pos h]
theorem sealN_ok {l : Nt} (hn : l.length ≤ 1000000000) (p : Int) (b : Bys) : numOk (sealN l p b) = true := by
  have := sealN_pos l p b
  unfold numOk; simp; omega
theorem givE_is {l : Nt} (hn : l.length ≤ 1000000000) (p : Int) {b : Bys} (hb : b.length ≤ 65530) : givE l p b = numB (sealN l p b) ++ b := by
  have h1 := sealN_ok hn p b
  have h2 := numX_len (sealN l p b)
  unfold numX at h2
  rw [if_pos h1] at h2
  unfold givE envP
  rw [h1, if_pos (by simp; omega)]
  rfl
theorem open_give {l : Nt} {m : Ms} {b : Bys} {f : Nat} {cl : Int} (hb : bodyP m = some b) (hl : b.length ≤ 65530) (hn : l.length ≤ 1000000000) : openP (sealL l m.fm b) f cl (givE l m.fm b) = if formP f cl m then some (m, sealN l m.fm b) else none := by
  have h1 := sealN_ok hn m.fm b
  rw [givE_is hn m.fm hl]
  have h2 : takeN (numB (sealN l m.fm b) ++ b) 0 = some ((sealN l m.fm b).toNat, 0 + (numB (sealN l m.fm b)).length) := take_num (fun i hi => by rw [Nat.zero_add, List.getElem?_append_left hi]) h1
  have h3 : (numB (sealN l m.fm b) ++ b).drop (0 + (numB (sealN l m.fm b)).length) = b := by simp
  have h4 := nat_num h1
  unfold openP
  rw [h2]
  simp only
  rw [h3, body_parse hb]
  simp only
  rw [h4, find_sealL]
  simp [mem_sealL]

end Go.Proofs.YtannckelmojkoaaGreat

/- A Change: its bytes, its form (plain). -/
namespace Go.Proofs.YtannckelmojkoaaGreat
open Go.RowKit Go.Heap

/-- A node's Change out of a view. -/
def chgQ (i v : Int) : Ms := ⟨6, i, v, 0, 0, 0, [], [], [], []⟩
def chgB (i v : Int) : Bys := msB (chgQ i v)

theorem chg_form {f : Nat} {cl i v : Int} (h1 : 0 ≤ i) (h2 : i ≤ 3 * f) (h3 : 0 ≤ v) (h4 : v ≤ 11) : formP f cl (chgQ i v) = true := by
  unfold formP chgQ formK okNode inW zeros bareP
  simp [h1, h2, h3, h4]
theorem chg_w {i v : Int} (h1 : 0 ≤ i) (h2 : i ≤ 100) (h3 : 0 ≤ v) (h4 : v ≤ 100) : msW (chgQ i v) = true := by
  have a : numOk i = true := by unfold numOk; simp; omega
  have b : numOk v = true := by unfold numOk; simp; omega
  have c : numOk 6 = true := by decide
  have d : numOk 0 = true := by decide
  have e : sgnOk 0 = true := by decide
  unfold msW chgQ
  simp only [a, b, c, d, e]
  decide
theorem num_len (n : Int) : (numB n).length ≤ 6 := by
  have := (encN_len 5 n.toNat).2
  unfold numB; omega
theorem chg_len (i v : Int) : (chgB i v).length ≤ 65530 := by
  have a := num_len i
  have b := num_len v
  unfold chgB chgQ msB
  simp only [List.length_append]
  have c : (numB 6).length = 1 := by decide
  have d : (numB 0).length = 1 := by decide
  have e : (sgnB 0).length = 1 := by decide
  simp [listB, c, d, e]
  omega
theorem chg_body {i v : Int} (h1 : 0 ≤ i) (h2 : i ≤ 100) (h3 : 0 ≤ v) (h4 : v ≤ 100) : bodyP (chgQ i v) = some (chgB i v) := by
  have h := chg_len i v
  unfold chgB at h
  unfold bodyP
  rw [chg_w h1 h2 h3 h4]
  simp only [Bool.true_and]
  rw [if_pos (by simp; omega)]
  rfl
theorem chg_open {l : Nt} {f : Nat} {cl i v : Int} (hn : l.length ≤ 1000000000) (hf : f ≤ 4) (h1 : 0 ≤ i) (h2 : i ≤ 3 * f) (h3 : 0 ≤ v) (h4 : v ≤ 11) : openP (sealL l i (chgB i v)) f cl (givE l i (chgB i v)) = some (chgQ i v, sealN l i (chgB i v)) := by
  have h := open_give (f := f) (cl := cl) (chg_body h1 (by omega) h3 (by omega) : bodyP (chgQ i v) = _) (chg_len i v) hn
  rw [if_pos (chg_form h1 h2 h3 h4)] at h
  exact h

end Go.Proofs.YtannckelmojkoaaGreat

/- InstGoes: the plain laws. -/
namespace Go.Proofs.YtannckelmojkoaaGreat
open Go.RowKit Go.Heap

/-- The first n nodes have voted for b. -/
def qv (f : Nat) (s : Int) (b : List Rq) (n : Nat) : List Vt := List.replicate n ⟨true, s, b⟩ ++ List.replicate (3 * f + 1 - n) noVt

def qvs (f : Nat) (s : Int) (b : List Rq) : Vs := (picks b (qv f s b (2 * f + 1)) 0).take (2 * f + 1)
/-- A slot in which n nodes have voted. -/
def mSl (f k n m : Nat) : Sl := ⟨true, [rq 0 k], qv f 1 [rq 0 k] n, qv f 2 [rq 0 k] m⟩
def mPl (f k n m : Nat) : Pl := { emptyPl f with sl := mSl f k n m }
def pCp (f : Nat) (v : Int) (k : Nat) : Cp := ⟨v, 0, k, [rq 0 k], qvs f 1 [rq 0 k]⟩
def dCp (f : Nat) (v : Int) (k : Nat) : Cp := ⟨v, 0, k, [rq 0 k], qvs f 2 [rq 0 k]⟩
def tPl (f : Nat) (v : Int) (k : Nat) : Pl := { mPl f k (2 * f + 1) (2 * f + 1) with told := true, has := true, ct := pCp f v k }
def fPl (f : Nat) (v : Int) (k : Nat) : Pl := { tPl f v k with done := true, dw := dCp f v k }
/-- Those up to d went their way; the next one is p. -/
def gs (f : Nat) (v : Int) (d : Nat) (p : Pl) : In := ⟨f, 0, 1, v, true, (List.range 16).map fun j => if j < d then fPl f v (j + 1) else if j = d then p else emptyPl f⟩
abbrev gz (f : Nat) (v : Int) (d : Nat) : In := gs f v d (emptyPl f)

end Go.Proofs.YtannckelmojkoaaGreat

/- Plain: the law InstCerts: one slot, prepared in view after view. -/
namespace Go.Proofs.YtannckelmojkoaaGreat
open Go.RowKit Go.Heap

/-- The votes' nodes rise and are below n. -/
def Rises (vs : Vs) (n : Int) : Prop := vs.Pairwise (fun a b => a.1 < b.1) ∧ ∀ p ∈ vs, 0 ≤ p.1 ∧ p.1 < n

/-! ### The law's states -/

def cs (f : Nat) (num v : Int) (on : Bool) (p : Pl) : In := ⟨f, num, 4, v, on, (List.range 16).map fun j => if j = 1 then p else emptyPl f⟩

section
variable {f : Nat} {num v : Int} {on : Bool} {p : Pl}

end
end Go.Proofs.YtannckelmojkoaaGreat

/- psephoskeep.Cert of equal certificates; psephosref01.Rising of votes that rise. -/
namespace Go.Proofs.YtannckelmojkoaaGreat
open Go.RowKit Go.Heap

theorem rises_at {vs : Vs} {n : Int} (h : Rises vs n) (k : Nat) (hk : k < vs.length) : 0 ≤ vs[k].1 ∧ vs[k].1 < n := h.2 _ (List.getElem_mem hk)
theorem rises_lt {vs : Vs} {n : Int} (h : Rises vs n) (m : Nat) (hk : m + 1 < vs.length) : vs[m].1 < vs[m + 1].1 := List.pairwise_iff_getElem.1 h.1 m (m + 1) (by omega) hk (by omega)

set_option maxHeartbeats 2000000 in
theorem rising01_any (f : Nat) (v : Value) (vs : Vs) (w : World) (hf1 : 1 ≤ f) (hf2 : f ≤ 4) (hl : vs.length = 2 * f + 1) (hr : Rises vs (3 * (f : Int) + 1)) (h : Vts w v vs) :
    Calls Tryz.prog 102 #[v, .int .i64 f] w fun e w' => e = .returned (.bool true) ∧ Upd [] w w' := by
  obtain ⟨ao, cap, rfl, h1, h2, h3, h4, h5⟩ := h
  clear h1 h2 h3 h4
  have H5 := Lib.hid h5
  have HR := Lib.hid hr
  clear h5 hr
  rw [hl]
  have HL := Lib.hid hl
  clear hl
  have e0 : (3 * (f : Int) + 1 == 0) = false := by simp; omega
  have e0' : decide (3 * (f : Int) + 1 = 0) = false := by simp; omega
  have e1 : (((2 * f + 1 : Nat) : Int) != 2 * (f : Int) + 1) = false := by simp
  go_enter Tryz.func102, Tryz.ntmps102
  go_wp2_with fail
  refine (rnodes_any f _ (by omega) (by omega)).mono ?_
  rintro e w' ⟨rfl, rfl⟩
  go_wp2_with fail
  refine (rquorum_any f _ (by omega) (by omega)).mono ?_
  rintro e w' ⟨rfl, rfl⟩
  go_wp2_with fail
  clear e0 e0' e1
  go_loopw [5] (fun i wr => ∃ k : Nat, k ≤ 2 * f + 1 ∧ i = .int .i64 k ∧ Below w.heap.size w wr) (fun i _ => 2 * f + 1 - (intOf i).toNat)
  case atStart => exact ⟨0, by omega, rfl, Below.refl _ _⟩
  case round =>
    obtain ⟨k, hk, rfl, hb⟩ := hrel
    by_cases hlt : k < 2 * f + 1
    · have hkv : k < vs.length := by rw [HL.out]; exact hlt
      obtain ⟨b, o, rfl, hbs, hc⟩ := H5.out (by rw [HL.out]; omega)
      have hcc := cells_below hb hbs hc
      obtain ⟨q0, -⟩ := vts_cells hcc k vs[k] (by simp)
      obtain ⟨t1, t2⟩ := rises_at HR.out k hkv
      have t1b : decide (vs[k].1 < 0) = false := by simp; omega
      have t2b : decide (3 * (f : Int) + 1 ≤ vs[k].1) = false := by simp; omega
      have HB := Lib.hid hb
      have HN := Lib.hid (fun wx => rnodes_any (f : Int) wx (by omega) (by omega))
      have HCC := Lib.hid hcc
      clear hb hc hcc
      by_cases hk0 : k = 0
      · subst hk0
        simp only [Nat.zero_mul, Nat.add_zero] at q0
        go_wp2_with fail
        go_quiet ((go_at_call 17; exact quiet_eq (HN.out _)))
        go_wp2_with fail
        go_roundw
        case rel => exact ⟨0 + 1, by omega, by go_num, below_drewN HB.out _⟩
        case measure => simp [intOf]
      · obtain ⟨m, rfl⟩ : ∃ m, k = m + 1 := ⟨k - 1, by omega⟩
        obtain ⟨p0, -⟩ := vts_cells HCC.out m vs[m] (by simp)
        have t3 := rises_lt HR.out m hkv
        have t3b : decide (vs[m + 1].1 ≤ vs[m].1) = false := by simp; omega
        have hp : decide ((0 : Int) < ((m + 1 : Nat) : Int)) = true := by simp
        clear hk0
        go_wp2_with fail
        go_quiet ((go_at_call 17; exact quiet_eq (HN.out _)))
        go_wp2_with fail
        go_roundw
        case rel => exact ⟨m + 1 + 1, by omega, by go_num, below_drewN HB.out _⟩
        case measure => simp [intOf]; omega
    · have hlb : decide ((k : Int) < ((2 * f + 1 : Nat) : Int)) = false := by simp; omega
      go_wp2_with fail
      go_ret
      exact ⟨rfl, Upd.of_below hb⟩

end Go.Proofs.YtannckelmojkoaaGreat

/- What is only read, all in the blocks that nobody owns; messages, sends in memory. -/
namespace Go.Heap
open Go Go.RowKit

section
variable {r r' s : Res} {w w' W W' w0 : World} {A A' N : List Nat} {rs ss : List Res} {B : Nat}

/-- The blocks that nobody owns. -/
def Fr (W : World) (rs : List Res) : List Nat := (List.range W.heap.size).filter fun k => decide (k ∉ Ms rs)
theorem mem_Fr (W : World) (rs : List Res) (k : Nat) : k ∈ Fr W rs ↔ k < W.heap.size ∧ k ∉ Ms rs := by simp [Fr]

/-- Something that is read in the blocks that nobody owns. -/
theorem Own.mkI {r : Res} (h : Own B w0 W rs) (hM : r.M = []) (hq : (∀ k ∈ Fr W rs, k < W.heap.size) → r.Q W (Fr W rs)) : Own B w0 W (r :: rs) :=
  h.new (Upd.refl [] _) ⟨Fr W rs, hq (fun k hk => ((mem_Fr _ _ _).1 hk).1), fun k hk => ((mem_Fr _ _ _).1 hk).2, fun k hk => h.lt k hk⟩ (by simp [hM])
theorem Own.mkRed {v : Value} {sz n : Nat} {xs : List Value} (h : Own B w0 W rs) (hq : ReadsIn W v sz n xs (Fr W rs)) : Own B w0 W (redR v sz n xs :: rs) := h.mkI rfl (fun hlt => ⟨hq, hlt⟩)

/-- What is read somewhere is read there. -/
theorem Own.fr {r : Res} (h : Own B w0 W rs) (hr : r ∈ rs) : ∃ D, r.Q W D ∧ ((∀ k ∈ D, k < W.heap.size) → ∀ k ∈ D, k ∈ Fr W rs) := by
  obtain ⟨⟨D, h1, h3, -⟩, -⟩ := h.all _ hr
  exact ⟨D, h1, fun h2 k hk => (mem_Fr _ _ _).2 ⟨h2 k hk, h3 k hk⟩⟩

theorem Own.redFr {v : Value} {sz n : Nat} {xs : List Value} (h : Own B w0 W rs) (k : Nat) (e : rs[k]? = some (redR v sz n xs)) : ReadsIn W v sz n xs (Fr W rs) := by
  obtain ⟨D, ⟨h1, h2⟩, h3⟩ := h.fr (List.mem_of_getElem? e)
  exact h1.mono (h3 h2)

/-- A row of one's own is a row that is only read. -/
theorem Own.toRed {E sz n : Nat} {v : Value} {xs : List Value} (h : Own B w0 W (ownR E sz v n xs :: rs)) : Own B w0 W (redR v sz n xs :: rs) := by
  refine h.drop.red (Go.Proofs.YtannckelmojkoaaGreat.owns_reads (ownR_owns h.head)) (fun k hk hn => ?_)
  have hk' := blkIf_sub hk
  obtain ⟨s, hs, hks⟩ := (Ms_iff _ _).1 hn
  exact (List.pairwise_cons.1 h.apart).1 s hs k hk' hks

theorem Own.sub (h : Own B w0 W (rs ++ ss)) : Own B w0 W ss := by
  induction rs with
  | nil => exact h
  | cons r rs ih => exact ih h.drop
end
end Go.Heap
namespace Go.Proofs.YtannckelmojkoaaGreat
open Go.RowKit Go.Heap

/-- A message that is only read. -/
structure MmIn (w : World) (m : Mm) (D : List Nat) : Prop where
  b : ReadsIn w m.vb 6 m.rs.length (m.rs.flatMap rqCells) D
  v : ReadsIn w m.vv 2 m.vs.length (m.vs.flatMap voteCells) D
  c : ReadsIn w m.vc 5 m.cts.length (m.cts.flatMap ctCells) D
  cs : ∀ c ∈ m.cts, CtIn w c D
  p : ReadsIn w m.vp 4 m.pts.length (m.pts.flatMap ptCells) D
  ps : ∀ p ∈ m.pts, PtIn w p D
  ok : MmOk m
theorem MmIn.dep {w w' : World} {m : Mm} {D : List Nat} (h : MmIn w m D) (hk : ∀ k ∈ D, w'.heap[k]? = w.heap[k]?) (hs : w.heap.size ≤ w'.heap.size) : MmIn w' m D :=
  ⟨ReadsIn.dep h.b hk hs, ReadsIn.dep h.v hk hs, ReadsIn.dep h.c hk hs, fun c hc => (h.cs c hc).dep hk hs, ReadsIn.dep h.p hk hs, fun p hp => (h.ps p hp).dep hk hs, h.ok⟩
theorem MmIn.mono {w : World} {m : Mm} {D D' : List Nat} (h : MmIn w m D) (hs : ∀ k ∈ D, k ∈ D') : MmIn w m D' :=
  ⟨h.b.mono hs, h.v.mono hs, h.c.mono hs, fun c hc => (h.cs c hc).mono hs, h.p.mono hs, fun p hp => (h.ps p hp).mono hs, h.ok⟩
def mmsR (l : List Mm) : Res := imm (fun w D => ∀ m ∈ l, MmIn w m D) (fun h hk hs m hm => (h m hm).dep hk hs)

/-- Bytes that are only read. -/
structure BysIn (w : World) (v : Value) (b : Bys) (D : List Nat) : Prop where
  r : ReadsIn w v 1 b.length (bysC b) D
  lt : ∀ c ∈ b, c < 256
  n : b.length ≤ 65536
theorem BysIn.dep {w w' : World} {v : Value} {b : Bys} {D : List Nat} (h : BysIn w v b D) (hk : ∀ k ∈ D, w'.heap[k]? = w.heap[k]?) (hs : w.heap.size ≤ w'.heap.size) : BysIn w' v b D := ⟨ReadsIn.dep h.r hk hs, h.lt, h.n⟩
theorem BysIn.mono {w : World} {v : Value} {b : Bys} {D D' : List Nat} (h : BysIn w v b D) (hs : ∀ k ∈ D, k ∈ D') : BysIn w v b D' := ⟨h.r.mono hs, h.lt, h.n⟩
/-- What goes out. -/
structure Sd where
  dst : Int
  v : Value
  b : Bys
def Sd.p (s : Sd) : Int × Bys := (s.dst, s.b)
def sdC (s : Sd) : List Value := [.int .i64 s.dst, s.v]
def sdsR (l : List Sd) : Res := imm (fun w D => ∀ s ∈ l, BysIn w s.v s.b D) (fun h hk hs s hm => (h s hm).dep hk hs)

section
variable {B : Nat} {w0 w W W' : World} {ss rs : List Res}

theorem cts_fr (h : Own B w0 W rs) (k : Nat) {l : List Ct} (e : rs[k]? = some (ctsR l)) : ∀ c ∈ l, CtIn W c (Fr W rs) := by
  obtain ⟨D, ⟨h1, h2⟩, h3⟩ := h.fr (List.mem_of_getElem? e)
  exact fun c hc => (h1 c hc).mono (h3 h2)
theorem pts_fr (h : Own B w0 W rs) (k : Nat) {l : List Pt} (e : rs[k]? = some (ptsR l)) : ∀ c ∈ l, PtIn W c (Fr W rs) := by
  obtain ⟨D, ⟨h1, h2⟩, h3⟩ := h.fr (List.mem_of_getElem? e)
  exact fun c hc => (h1 c hc).mono (h3 h2)
theorem sds_fr (h : Own B w0 W rs) (k : Nat) {l : List Sd} (e : rs[k]? = some (sdsR l)) : ∀ c ∈ l, BysIn W c.v c.b (Fr W rs) := by
  obtain ⟨D, ⟨h1, h2⟩, h3⟩ := h.fr (List.mem_of_getElem? e)
  exact fun c hc => (h1 c hc).mono (h3 h2)
theorem _root_.Go.Heap.Own.mkCts {l : List Ct} (h : Own B w0 W rs) (hq : ∀ c ∈ l, CtIn W c (Fr W rs)) : Own B w0 W (ctsR l :: rs) := h.mkI rfl (fun hlt => ⟨hq, hlt⟩)
theorem _root_.Go.Heap.Own.mkPts {l : List Pt} (h : Own B w0 W rs) (hq : ∀ c ∈ l, PtIn W c (Fr W rs)) : Own B w0 W (ptsR l :: rs) := h.mkI rfl (fun hlt => ⟨hq, hlt⟩)
theorem _root_.Go.Heap.Own.mkMms {l : List Mm} (h : Own B w0 W rs) (hq : ∀ c ∈ l, MmIn W c (Fr W rs)) : Own B w0 W (mmsR l :: rs) := h.mkI rfl (fun hlt => ⟨hq, hlt⟩)
theorem _root_.Go.Heap.Own.mkSds {l : List Sd} (h : Own B w0 W rs) (hq : ∀ c ∈ l, BysIn W c.v c.b (Fr W rs)) : Own B w0 W (sdsR l :: rs) := h.mkI rfl (fun hlt => ⟨hq, hlt⟩)
theorem fr_imm {r : Res} {l : List Res} (h : r.M = []) : Fr W (r :: l) = Fr W l := by unfold Fr; rw [ms_imm h]
end
end Go.Proofs.YtannckelmojkoaaGreat

/- A node: what it is (plain), how it lies in memory. -/
namespace Go.Proofs.YtannckelmojkoaaGreat
open Go.RowKit Go.Heap

/-- A configuration. -/
structure Cf where
  f : Nat
  cl : Int
  bt : Int
  ah : Int
  qu : Int
  fl : Int
  sh : Int
  pe : Int
  nu : Int
  de : Int
  la : Int
  om : Int
  wa : Int
  ag : Int
  re : Int
structure CfOk (c : Cf) : Prop where
  f1 : 1 ≤ c.f
  f2 : c.f ≤ 4
  cl1 : 1 ≤ c.cl
  cl2 : c.cl ≤ 4
  bt1 : 1 ≤ c.bt
  bt2 : c.bt ≤ 4
  ah1 : 1 ≤ c.ah
  ah2 : c.ah ≤ 16
  qu1 : 1 ≤ c.qu
  qu2 : c.qu ≤ 256
  fl1 : 1 ≤ c.fl
  fl2 : c.fl ≤ 64
  sh1 : 1 ≤ c.sh
  sh2 : c.sh ≤ 64
  pe1 : 2 ≤ c.pe
  pe2 : c.pe ≤ 64
  nu1 : 0 ≤ c.nu
  nu2 : c.nu ≤ 8
  de1 : 1 ≤ c.de
  de2 : c.de ≤ 8
  la1 : 2 ≤ c.la
  la2 : c.la ≤ 64
  om1 : 0 ≤ c.om
  om2 : c.om ≤ 64
  wa1 : 2 ≤ c.wa
  wa2 : c.wa ≤ 64
  ag1 : 1 ≤ c.ag
  ag2 : c.ag ≤ 16
  re1 : 1 ≤ c.re
  re2 : c.re ≤ 64
abbrev cfA (c : Cf) : Array Value := #[.int .i64 c.f, .int .i64 c.cl, .int .i64 c.bt, .int .i64 c.ah, .int .i64 c.qu, .int .i64 c.fl, .int .i64 c.sh, .int .i64 c.pe, .int .i64 c.nu, .int .i64 c.de, .int .i64 c.la, .int .i64 c.om, .int .i64 c.wa, .int .i64 c.ag, .int .i64 c.re]

/-- A request in a table: who told it, whether it is ready, since when. -/
structure Td where
  r : Rq
  by_ : List Bool
  ready : Bool
  since : Int
def tdC (t : Td) : List Value := rqCells t.r ++ (t.by_.map Value.bool ++ [.bool t.ready, .int .i64 t.since])

/-- A node. -/
structure Ns where
  c : Cf
  id : Int
  now : Int
  ins : List In
  tab : List Td
  vo : List Vo
  gd : List Peer
  bk : Lp
  mt : List (Int × Int)
  pts : List (Int × Pa)
  bg : List (Int × Ms)
  pre : List (List Int)
  com : List (List Int)
  run : Int
  view : Int
  voted : Int
  since : Int
  start : Int
  stop : Bool
  out : List (Int × Bys)
  used : Int
  bad : Int
  stale : Int
  shut : Int
  full : Int

/-- Where it lies. -/
structure Np where
  p : Nat
  nt : Nat
  nm : Nat
  t : Nat
  ib : Nat
  ic : Nat
  is : List Nat
  tb : Nat
  vt : Nat
  vg : Nat
  vk : Nat
  gd : Nat
  bk : Nat
  mt : Nat
  mg : Nat
  mtk : Nat
  pt : Nat
  pk : Nat
  bg : Nat
  bgk : Nat
  pr : Nat
  prk : Nat
  prs : List Nat
  co : Nat
  cok : Nat
  cos : List Nat
/-- What of that changes. -/
structure Nv where
  xs : List Ins
  tv : Value
  gv : Value
  lg : Lg
  ps : List (Int × Pt)
  ms : List (Int × Mm)
  ov : Value
  os : List Sd

abbrev slI (b n k : Nat) : Value := .slice (some ⟨b, 0, none⟩) n k
/-- A node's cells. -/
abbrev nsC (x : Np) (s : Ns) (ov : Value) : List Value := [.int .i64 s.c.f, .int .i64 s.c.cl, .int .i64 s.c.bt, .int .i64 s.c.ah, .int .i64 s.c.qu, .int .i64 s.c.fl, .int .i64 s.c.sh, .int .i64 s.c.pe, .int .i64 s.c.nu, .int .i64 s.c.de, .int .i64 s.c.la, .int .i64 s.c.om, .int .i64 s.c.wa, .int .i64 s.c.ag, .int .i64 s.c.re,
  .int .i64 s.id, ptrV x.nt, ptrV x.t, slI x.ib (s.c.f + 1) x.ic, ptrV x.tb, ptrV x.vt, ptrV x.gd, ptrV x.bk, ptrV x.mt, slI x.pt (3 * s.c.f + 1) x.pk, slI x.bg (s.c.f + 1) x.bgk, slI x.pr (s.c.f + 1) x.prk, slI x.co (s.c.f + 1) x.cok,
  .int .i64 s.run, .int .i64 s.view, .int .i64 s.voted, .int .i64 s.since, .int .i64 s.start, .bool s.stop, ov, .int .i64 s.used, .int .i64 s.bad, .int .i64 s.stale, .int .i64 s.shut, .int .i64 s.full]

abbrev tabOb (f : Nat) (cl : Int) (v : Value) : Obj := .cells #[.int .i64 f, .int .i64 cl, v] 244 (0, 0)
abbrev tdR (v : Value) (l : List Td) : Res := ownR 314 21 v l.length (l.flatMap tdC)
abbrev tabL (tb f : Nat) (cl : Int) (v : Value) (l : List Td) : List Res := [blk tb (tabOb f cl v), tdR v l]
/-- A measure: how many, how many ticks. -/
abbrev mtV (z : Int × Int) : Value := .complex .f64 (FloatKind.f64.nearest z.1) (FloatKind.f64.nearest z.2)
def mtC (l : List (Int × Int)) : List Value := l.map mtV
abbrev mtB (g n k : Nat) : Obj := .cells #[slI g n k] 254 (0, 0)
abbrev mtL (m g n k : Nat) (l : List (Int × Int)) : List Res := [blk m (mtB g n k), segR g 269 (mtC l)]
def pqC (q : Int × Pt) : List Value := .int .i64 q.1 :: ptCells q.2
def bgC (q : Int × Mm) : List Value := .int .i64 q.1 :: (mmA q.2).toList
/-- Rows of numbers. -/
abbrev nrR (q : Nat × List Int) : Res := segR q.1 3 (intC q.2)
abbrev nrV (b : Nat) : Value := slI b 17 17
abbrev nrL (b : Nat) (bs : List Nat) (l : List (List Int)) : List Res := segR b 69 (bs.map nrV) :: (bs.zip l).map nrR
abbrev ouL (v : Value) (os : List Sd) : List Res := [ownR 62 2 v os.length (os.flatMap sdC), sdsR os]
abbrev inL (b : Nat) (is : List Nat) (xs : List Ins) : List Res := segR b 142 (is.map ptrV) :: xs.map instR
abbrev pqL (b : Nat) (ps : List (Int × Pt)) : List Res := [segR b 260 (ps.flatMap pqC), ptsR (ps.map Prod.snd)]
abbrev bqL (b : Nat) (ms : List (Int × Mm)) : List Res := [segR b 262 (ms.flatMap bgC), mmsR (ms.map Prod.snd)]

/-- All that a node owns behind its own block. -/
abbrev nsT (x : Np) (s : Ns) (v : Nv) : List Res := [
  blk x.t (clkO s.now (.slice none 0 0)),
  joinR (tabL x.tb s.c.f s.c.cl v.tv s.tab),
  joinR [blk x.vt (cvO s.c.f x.vg s.vo.length x.vk), cvR x.vg s.vo],
  joinR [blk x.gd (grO s.c.fl s.c.sh v.gv), plR v.gv s.gd],
  joinR (lgL v.lg),
  joinR (mtL x.mt x.mg s.mt.length x.mtk s.mt),
  joinR (inL x.ib x.is v.xs),
  joinR (pqL x.pt v.ps),
  joinR (bqL x.bg v.ms),
  joinR (nrL x.pr x.prs s.pre),
  joinR (nrL x.co x.cos s.com),
  joinR (ouL v.ov v.os)]
/-- All that a node owns. -/
abbrev nsL (x : Np) (s : Ns) (v : Nv) : List Res := segR x.p 141 (nsC x s v.ov) :: nsT x s v
abbrev nsR (x : Np) (s : Ns) (v : Nv) : Res := joinR (nsL x s v)

structure NvOk (x : Np) (s : Ns) (v : Nv) : Prop where
  xs : v.xs.map Ins.st = s.ins
  is : v.xs.map Ins.i = x.is
  lg : v.lg.lp = s.bk
  lo : LgOk v.lg
  lp : v.lg.p = x.bk
  ps : v.ps.map (fun q => (q.1, q.2.pa)) = s.pts
  ms : v.ms.map (fun q => (q.1, q.2.ms)) = s.bg
  os : v.os.map Sd.p = s.out
  ov : ∃ a k, v.ov = .slice a v.os.length k
  ic : s.c.f + 1 ≤ x.ic
  pk : 3 * s.c.f + 1 ≤ x.pk
  bgk : s.c.f + 1 ≤ x.bgk
  prk : s.c.f + 1 ≤ x.prk
  cok : s.c.f + 1 ≤ x.cok
  mtk : s.c.f + 1 ≤ x.mtk
  vk : 3 * s.c.f + 1 ≤ x.vk
  prs : x.prs.length = s.c.f + 1
  cos : x.cos.length = s.c.f + 1

/-- Batches are small. -/
structure PlSm (p : Pl) : Prop where
  b : p.sl.batch.length ≤ 4
  ct : p.ct.rs.length ≤ 4
  dw : p.dw.rs.length ≤ 4
  cs : ∀ t ∈ p.sl.cs, t.batch.length ≤ 4
structure InSm (st : In) : Prop where
  b : ∀ p ∈ st.l, PlSm p
/-- What no call of an instance turns. -/
structure InKeep (a b : In) : Prop where
  f : b.f = a.f
  num : b.num = a.num
  ahead : b.ahead = a.ahead
  sm : InSm a → InSm b
  dn : a.l.countP (·.done) ≤ b.l.countP (·.done)
/-- A table's order of size. -/
structure TabOk (cl : Int) (l : List Td) : Prop where
  c : ∀ t ∈ l, 0 ≤ t.r.client ∧ t.r.client < cl ∧ t.by_.length = 13 ∧ 0 ≤ t.since ∧ t.since ≤ 1048576
  n : ∀ c : Int, l.countP (fun t => t.r.client == c) ≤ 4
structure NsOk (s : Ns) : Prop where
  c : CfOk s.c
  id0 : 0 ≤ s.id
  id1 : s.id ≤ 3 * s.c.f
  now0 : 0 ≤ s.now
  now1 : s.now ≤ 1048576
  ins : s.ins.length = s.c.f + 1
  insk : ∀ (k : Nat) (h : k < s.ins.length), s.ins[k].f = s.c.f ∧ s.ins[k].num = k ∧ s.ins[k].ahead = s.c.ah ∧ InSm s.ins[k]
  tab : TabOk s.c.cl s.tab
  vo : s.vo.length = 3 * s.c.f + 1
  gd : ∀ q ∈ s.gd, 0 ≤ q.bad ∧ q.bad ≤ s.c.fl
  mt : s.mt.length = s.c.f + 1
  mtn : ∀ (k : Nat) (h : k < s.mt.length) (h2 : k < s.ins.length), 0 ≤ s.mt[k].1 ∧ s.mt[k].1 ≤ 4 * (s.ins[k].l.countP (·.done) : Nat) ∧ 0 ≤ s.mt[k].2 ∧ s.mt[k].2 ≤ 1048576 * s.mt[k].1
  pts : s.pts.length = 3 * s.c.f + 1
  bg : s.bg.length = s.c.f + 1
  pre : s.pre.length = s.c.f + 1
  pre2 : ∀ l ∈ s.pre, l.length = 17
  com : s.com.length = s.c.f + 1
  com2 : ∀ l ∈ s.com, l.length = 17
  bkc : s.bk.clients = s.c.cl
  bkn : s.bk.rp.length = s.c.cl.toNat
  bks : s.bk.st.length = 64
  bkv : VsOk (s.bk.st.map Prod.snd)
  bke : (s.bk.es.length : Int) ≤ 4 * s.run
  run0 : 0 ≤ s.run
  run1 : s.run ≤ 16
  view0 : 0 ≤ s.view
  view1 : s.view ≤ 12
  voted0 : -1 ≤ s.voted
  voted1 : s.voted ≤ 12
  since0 : 0 ≤ s.since
  since1 : s.since ≤ 1048576
  start0 : 0 ≤ s.start
  start1 : s.start ≤ 1048576
  used0 : 0 ≤ s.used
  bad0 : 0 ≤ s.bad
  stale0 : 0 ≤ s.stale
  shut0 : 0 ≤ s.shut
  full0 : 0 ≤ s.full

/-- A node lies there, and its notary; and ss. -/
def NdIs (B : Nat) (w0 W : World) (x : Np) (s : Ns) (l : Nt) (ss : List Res) : Prop :=
  NsOk s ∧ NtOk l ∧ ∃ v : Nv, NvOk x s v ∧ Own B w0 W (nsR x s v :: blk x.nt (noB x.nm) :: ntR x.nm l :: ss)

section
variable {B : Nat} {w0 w W W' : World} {ss rs : List Res} {x : Np} {s s' : Ns} {l l' : Nt}

theorem NdIs.ok (h : NdIs B w0 W x s l ss) : NsOk s := h.1
theorem NdIs.nok (h : NdIs B w0 W x s l ss) : NtOk l := h.2.1
theorem NdIs.upd0 (h : NdIs B w0 W x s l ss) (hu : Upd [] W W') : NdIs B w0 W' x s l ss := let ⟨a, b, v, c, d⟩ := h; ⟨a, b, v, c, d.upd0 hu⟩
theorem NdIs.alloc (h : NdIs B w0 W x s l ss) (o : Obj) : NdIs B w0 (W.alloc o) x s l ss := h.upd0 ((Upd.refl _ _).alloc o)
theorem NdIs.drew (h : NdIs B w0 W x s l ss) : NdIs B w0 W.drew x s l ss := h.upd0 (Upd.refl _ _).drew
theorem NdIs.drewN (h : NdIs B w0 W x s l ss) (n : Nat) : NdIs B w0 (W.drewN n) x s l ss := h.upd0 ((Upd.refl _ _).drewN n)
theorem NdIs.perm {ss' : List Res} (h : NdIs B w0 W x s l ss) (hp : ss.Perm ss') : NdIs B w0 W x s l ss' := let ⟨a, b, v, c, d⟩ := h; ⟨a, b, v, c, d.perm (((hp.cons _).cons _).cons _)⟩
theorem NdIs.drop {r : Res} (h : NdIs B w0 W x s l (r :: ss)) : NdIs B w0 W x s l ss := let ⟨a, b, v, c, d⟩ := h; ⟨a, b, v, c, d.dropAt 3 (by simp)⟩
theorem NdIs.box (h : NdIs B w0 W x s l ss) (o : Obj) : NdIs B w0 (W.alloc o) x s l (blk W.heap.size o :: ss) := let ⟨a, b, v, c, d⟩ := h; ⟨a, b, v, c, (d.box o).back 3 (by simp) rfl⟩
theorem NdIs.size (h : NdIs B w0 W x s l ss) : B ≤ W.heap.size := let ⟨_, _, _, _, d⟩ := h; d.size
theorem NdIs.below (h : NdIs B w0 W x s l ss) : Below B w0 W := let ⟨_, _, _, _, d⟩ := h; d.below

/-- What stands beside the node is worked on. -/
theorem NdIs.side (h : NdIs B w0 W x s l ss) : ∃ r : Res, Own B w0 W (ss ++ [r]) ∧ ∀ W' ss', Own B w0 W' (ss' ++ [r]) → NdIs B w0 W' x s l ss' := by
  obtain ⟨a, b, v, c, d⟩ := h
  have e : ∀ l' : List Res, (nsR x s v :: blk x.nt (noB x.nm) :: ntR x.nm l :: l').Perm (l' ++ [nsR x s v, blk x.nt (noB x.nm), ntR x.nm l]) := fun l' => (List.perm_append_comm (l₁ := [_, _, _]))
  refine ⟨joinR [nsR x s v, blk x.nt (noB x.nm), ntR x.nm l], ?_, fun W' ss' h' => ⟨a, b, v, c, ?_⟩⟩
  · have h1 : Own B w0 W (joinR [nsR x s v, blk x.nt (noB x.nm), ntR x.nm l] :: ss) := Own.shut (rs := [_, _, _]) d
    exact h1.perm (List.perm_append_comm (l₁ := [_]))
  · exact Own.open (rs := [_, _, _]) (h'.perm (List.perm_append_comm (l₂ := [_])))
/-- What stands beside the node, and the notary. -/
theorem NdIs.sideN (h : NdIs B w0 W x s l ss) : ∃ r : Res, Own B w0 W (blk x.nt (noB x.nm) :: ntR x.nm l :: (ss ++ [r])) ∧ ∀ W' l' ss', NtOk l' → Own B w0 W' (blk x.nt (noB x.nm) :: ntR x.nm l' :: (ss' ++ [r])) → NdIs B w0 W' x s l' ss' := by
  obtain ⟨a, b, v, c, d⟩ := h
  refine ⟨nsR x s v, d.perm (List.perm_append_comm (l₁ := [_])), fun W' l' ss' hl h' => ⟨a, hl, v, c, h'.perm (List.perm_append_comm (l₂ := [_]) (l₁ := _ :: _ :: ss'))⟩⟩

/-- A cell of the node. -/
theorem NdIs.cell (h : NdIs B w0 W x s l ss) (i : Nat) {u : Value} (e : (nsC x s (.slice none 0 0))[i]? = some u) (hi : i ≠ 34) : W.cell? ⟨x.p, i, none⟩ = some u := by
  obtain ⟨a, b, v, c, d⟩ := h
  refine (seg_at (Own.open d) 0 rfl i (v := u) ?_).1
  rw [← e]
  by_cases h1 : i < 34
  · rw [show nsC x s v.ov = (nsC x s v.ov).take 34 ++ (nsC x s v.ov).drop 34 from (List.take_append_drop _ _).symm, List.getElem?_append_left (by simp; omega), show nsC x s (.slice none 0 0) = (nsC x s v.ov).take 34 ++ (nsC x s (.slice none 0 0)).drop 34 from rfl, List.getElem?_append_left (by simp; omega)]
  · rw [show nsC x s v.ov = (nsC x s v.ov).take 35 ++ (nsC x s v.ov).drop 35 from (List.take_append_drop _ _).symm, List.getElem?_append_right (by simp; omega), show nsC x s (.slice none 0 0) = (nsC x s (.slice none 0 0)).take 35 ++ (nsC x s v.ov).drop 35 from rfl, List.getElem?_append_right (by simp; omega)]
    rfl
theorem NdIs.fz (h : NdIs B w0 W x s l ss) (i : Nat) : W.frozen? ⟨x.p, i, none⟩ = false := by
  obtain ⟨a, b, v, c, d⟩ := h
  exact (segR_at (Own.open d).head).2.2 i

/-- A cell is written. -/
theorem NdIs.put (h : NdIs B w0 W x s l ss) (i : Nat) (u : Value) (hs : ∀ v, (nsC x s v).set i u = nsC x s' v) (ok : NsOk s') (hv : ∀ v, NvOk x s v → NvOk x s' v) (hl : ∀ v, nsT x s v = nsT x s' v) : NdIs B w0 (W.setCell ⟨x.p, i, none⟩ u) x s' l ss := by
  obtain ⟨a, b, v, c, d⟩ := h
  refine ⟨ok, b, v, hv v c, Own.shut ?_⟩
  have h1 := (Own.open d).put i u
  rw [hs] at h1
  have e := hl v
  show Own B w0 _ (segR x.p 141 (nsC x s' v.ov) :: (nsT x s' v ++ _))
  rw [← e]
  exact h1

/-- One of the things that it owns is worked on. -/
theorem NdIs.lens (h : NdIs B w0 W x s l ss) (k : Nat) (hk0 : 0 < k) (hk : k < 13) : ∃ v rr, NvOk x s v ∧ Own B w0 W ((nsL x s v)[k]'(by simpa using hk) :: (ss ++ rr)) ∧
    ∀ W' s' v' ss' r', NsOk s' → NvOk x s' v' → nsL x s' v' = (nsL x s v).set k r' → Own B w0 W' (r' :: (ss' ++ rr)) → NdIs B w0 W' x s' l ss' := by
  obtain ⟨a, b, v, c, d⟩ := h
  refine ⟨v, (nsL x s v).eraseIdx k ++ [blk x.nt (noB x.nm), ntR x.nm l], c, ?_, fun W' s' v' ss' r' ok' c' e h' => ⟨ok', b, v', c', ?_⟩⟩
  · have h1 := Own.open d
    refine h1.perm ?_
    refine ((perm_at (nsL x s v) k (by simpa using hk)).append_right _).trans ?_
    refine List.Perm.cons _ ?_
    refine (List.Perm.append_left _ (List.perm_append_comm (l₁ := [_, _]))).trans ?_
    refine List.perm_append_comm.trans ?_
    rw [List.append_assoc]
    refine List.Perm.append_left _ ?_
    exact List.perm_append_comm
  · refine Own.shut ?_
    rw [e]
    refine h'.perm ?_
    refine List.Perm.trans (List.Perm.cons _ ?_) ((perm_set (nsL x s v) k (by simpa using hk) r').append_right _).symm
    refine List.Perm.trans ?_ (List.Perm.append_left _ (List.perm_append_comm (l₂ := [_, _])))
    refine List.Perm.trans ?_ List.perm_append_comm
    rw [List.append_assoc]
    refine List.Perm.append_left _ ?_
    exact List.perm_append_comm

end
end Go.Proofs.YtannckelmojkoaaGreat
