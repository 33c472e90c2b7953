/- Parts of the proof, one behind the other. -/
import Derived.Test.YtannckelmojkoaaGreatMovB26

/- psephosref06: Checked, Changed. -/
namespace Go.Proofs.YtannckelmojkoaaGreat
open Go.RowKit Go.Heap

/-- A Change in memory. -/
def chgMm (i v : Int) : Mm := ⟨6, i, v, 0, 0, 0, .slice none 0 0, [], .slice none 0 0, [], .slice none 0 0, [], .slice none 0 0, []⟩
theorem chgMm_at (w : World) (i v : Int) : MmAt w (chgMm i v) where
  b := Reads.nil _ _
  bn := by simp [chgMm]
  v := Reads.nil _ _
  vn := by simp [chgMm]
  c := ⟨Reads.nil _ _, by simp [chgMm]⟩
  cn := by simp [chgMm]
  p := ⟨Reads.nil _ _, by simp [chgMm]⟩
  pn := by simp [chgMm]

section
variable {B : Nat} {w0 w W W' : World} {ss rs : List Res} {rn : Nat} {vp vt v bv : Value} {l : Nt}

set_option maxHeartbeats 2000000 in
set_option maxRecDepth 100000 in
theorem rchecked_any {i vw sl : Int} {b : Bys} (hn : RnAt W rn vp vt l) (hl : NtOk l) (hln : l.length ≤ 1000000000) (h1 : 0 ≤ i) (h2 : i ≤ 100) (hb : bodyP (chgQ i vw) = some b) :
    Calls Tryz.prog 103 #[.agg (mmA (chgMm i vw)), .int .i64 sl, .pointer (some ⟨rn, 0, none⟩)] W fun e w' => e = .returned (.bool (chkN l i b sl)) ∧ Upd [] W w' := by
  have hm := chgMm_at (W.alloc (mmO (chgMm i vw))) i vw
  have HB := Lib.hid (rbody_any (own_mm hm) ⟨hm.bn, hm.vn, hm.cn, hm.pn⟩)
  rw [show (chgMm i vw).ms = chgQ i vw from rfl, hb] at HB
  have hsk : SOk (i, b) := body_sok (m := chgQ i vw) hb (by simp [chgQ]; omega) (by simp [chgQ]; omega)
  have HS := Lib.hid hsk
  have HN := Lib.hid hn
  have HL := Lib.hid hl
  have hb0 : (W.alloc (mmO (chgMm i vw))).heap[W.heap.size]? = some (mmO (chgMm i vw)) := heap_alloc_new W _
  have x0 := cell_blk hb0 0 rfl
  have x1 := cell_blk hb0 1 rfl
  have x2 := cell_blk hb0 2 rfl
  have x3 := cell_blk hb0 3 rfl
  have x4 := cell_blk hb0 4 rfl
  have x5 := cell_blk hb0 5 rfl
  have x6 := cell_blk hb0 6 rfl
  have x7 := cell_blk hb0 7 rfl
  have x8 := cell_blk hb0 8 rfl
  have x9 := cell_blk hb0 9 rfl
  have hua := Lib.hid ((Upd.refl [] W).alloc (mmO (chgMm i vw)))
  clear hm hn hl hb hsk hb0
  unfold chgMm at *
  go_enter Tryz.func103, Tryz.ntmps103
  go_wp2_with fail
  refine HB.out.mono ?_
  rintro e w1 ⟨v1, rfl, h2⟩
  have hu : Upd [] _ w1 := Upd.of_below h2.below
  have y1 := cell_upd hu x1
  have HU := Lib.hid (hua.out.trans hu)
  have hby : Byt w1 v1 b := ⟨bys_reads (k := 0) h2 rfl, HS.out.b⟩
  have HC := Lib.hid (rcheck_any (sl := sl) (HN.out.upd HU.out) HL.out HS.out hby hln)
  obtain ⟨ao, cap, rfl, -, -⟩ := byt_form hby
  clear h2 HB x0 x1 x2 x3 x4 x5 x6 x7 x8 x9 hu hby
  simp only [bysO, Option.isSome_some]
  go_wp2_with fail
  refine HC.out.mono ?_
  rintro e w3 ⟨rfl, hu3⟩
  have HU3 := Lib.hid (HU.out.trans hu3)
  clear hu3 HC
  go_wp2_with fail
  go_ret
  exact ⟨rfl, HU3.out⟩

set_option maxHeartbeats 4000000 in
set_option maxRecDepth 100000 in
theorem changed_true (f : Nat) (vw : Int) (vs : Vs) (hf1 : 1 ≤ f) (hf2 : f ≤ 4) (hv0 : 0 ≤ vw) (hv1 : vw ≤ 11) (hl : vs.length = 2 * f + 1) (hr : Rises vs (3 * (f : Int) + 1)) (h : Vts W v vs) (hn : RnAt W rn vp vt l) (hlo : NtOk l) (hln : l.length ≤ 1000000000) (hc : ∀ q ∈ vs, chkN l q.1 (chgB q.1 vw) q.2 = true) :
    Calls Tryz.prog 41 #[.int .i64 vw, v, .int .i64 f, .pointer (some ⟨rn, 0, none⟩)] W fun e w' => e = .returned (.bool true) ∧ Upd [] W w' := by
  have HRI := Lib.hid (rising01_any f v vs W hf1 hf2 hl hr h)
  have HV := Lib.hid h
  have HN := Lib.hid hn
  have HL := Lib.hid hlo
  have HC := Lib.hid hc
  have HR := Lib.hid hr
  have HLE := Lib.hid hl
  obtain ⟨ao, cap, rfl, -⟩ := h
  have g0 : decide (vw < 0) = false := by simp; omega
  have g1 : decide (12 ≤ vw) = false := by simp; omega
  clear hn hlo hc hr hl
  rw [HLE.out] at HRI ⊢
  go_enter Tryz.func41, Tryz.ntmps41
  go_wp2_with fail
  refine HRI.out.mono ?_
  rintro e w1 ⟨rfl, hu⟩
  have HU := Lib.hid hu
  clear hu HRI
  go_wp2_with fail
  go_loopw [9] (fun i wr => ∃ k : Nat, k ≤ 2 * f + 1 ∧ i = .int .i64 k ∧ Hid (Upd [] W wr)) (fun i _ => 2 * f + 1 - (intOf i).toNat)
  case atStart => exact ⟨0, by omega, rfl, HU⟩
  case round =>
    clear HU
    obtain ⟨k, hk, rfl, HU⟩ := hrel
    by_cases hlt : k < 2 * f + 1
    · have hkv : k < vs.length := by rw [HLE.out]; exact hlt
      have hkI : (k : Int) < 2 * (f : Int) + 1 := by omega
      have hk0 : (0 : Int) ≤ (k : Int) := by omega
      obtain ⟨ao', cap', hv', -, -, -, -, h5⟩ := HV.out.upd HU.out (by simp)
      simp only [Value.slice.injEq] at hv'
      obtain ⟨b, o, hao, hbl, hcell⟩ := h5 (by rw [HLE.out]; omega)
      rw [← hv'.1] at hao
      subst hao
      obtain ⟨q0, q1⟩ := vts_cells hcell k vs[k] (by simp)
      obtain ⟨t1, t2⟩ := rises_at HR.out k hkv
      have hcc := HC.out vs[k] (List.getElem_mem hkv)
      have HK := Lib.hid (rchecked_any (sl := vs[k].2) (HN.out.upd HU.out.drew) HL.out hln t1 (by omega) (chg_body t1 (by omega) hv0 (by omega : vw ≤ 100)))
      rw [hcc] at HK
      unfold chgMm at HK
      generalize vs[k] = vk at *
      clear hcell h5 hcc hv'
      go_wp2_with fail
      refine Mix.wp_text2 (by kernel_rfl) (by kernel_rfl) ?_
      go_wp2_with fail
      refine HK.out.mono ?_
      rintro e w3 ⟨rfl, hu3⟩
      have HU3 := Lib.hid (HU.out.drew.trans hu3)
      clear hu3 HK
      go_wp2_with fail
      refine ⟨by rfl, ?_⟩
      go_wp2_with fail
      go_roundw
      case rel => exact ⟨k + 1, by omega, by go_num, HU3⟩
      case measure => simp [intOf]; omega
    · have hkI : decide ((k : Int) < 2 * (f : Int) + 1) = false := by simp; omega
      go_wp2_with fail
      go_ret
      exact ⟨rfl, HU.out⟩

end
end Go.Proofs.YtannckelmojkoaaGreat

/- NodeMoves, plain: what the others' Changes lead to. -/
namespace Go.Proofs.YtannckelmojkoaaGreat
open Go.RowKit Go.Heap

/-! ### Which votes are picked -/
def isV (view : Int) (x : Vo) : Bool := x.has && (x.view == view)
def filV (view : Int) : List Vo → Nat → Vs
  | [], _ => []
  | x :: l, i => if isV view x then ((i : Int), x.sl) :: filV view l (i + 1) else filV view l (i + 1)
theorem eGo_fil (view : Int) (q : Nat) : ∀ (l : List Vo) (i : Nat) (acc : Vs), acc.length ≤ q → eGo view q l i acc = acc ++ (filV view l i).take (q - acc.length)
  | [], i, acc, h => by simp [eGo, filV]
  | x :: l, i, acc, h => by
    unfold eGo filV
    have e : (x.has && (x.view == view) && decide (acc.length < q)) = (isV view x && decide (acc.length < q)) := rfl
    rw [e]
    cases hb : isV view x with
    | false => simp only [Bool.false_and, Bool.false_eq_true, if_false]; exact eGo_fil view q l (i + 1) acc h
    | true =>
      simp only [Bool.true_and, if_true]
      by_cases hq : acc.length < q
      · rw [if_pos (by simpa using hq), eGo_fil view q l (i + 1) _ (by simp; omega)]
        rw [show q - acc.length = (q - (acc.length + 1)) + 1 by omega, List.take_succ_cons]
        simp
      · rw [if_neg (by simpa using hq), eGo_fil view q l (i + 1) acc h, show q - acc.length = 0 by omega]
        simp
theorem picks_fil (l : List Vo) (view : Int) (q : Nat) : picksV l view q = (filV view l 0).take q := by
  unfold picksV
  rw [eGo_fil view q l 0 [] (by simp)]
  simp
theorem filV_len (view : Int) : ∀ (l : List Vo) (i : Nat), (filV view l i).length = l.countP (isV view)
  | [], i => rfl
  | x :: l, i => by
    unfold filV
    rw [List.countP_cons]
    cases isV view x <;> simp [filV_len view l (i + 1)]
theorem filV_mem (view : Int) : ∀ (l : List Vo) (i : Nat) (p : Int × Int), p ∈ filV view l i → ∃ (k : Nat) (h : k < l.length), p = (((i + k : Nat) : Int), l[k].sl) ∧ isV view l[k] = true
  | [], i, p, h => by simp [filV] at h
  | x :: l, i, p, h => by
    unfold filV at h
    have rec' : p ∈ filV view l (i + 1) → ∃ (k : Nat) (h : k < (x :: l).length), p = (((i + k : Nat) : Int), (x :: l)[k].sl) ∧ isV view (x :: l)[k] = true := fun h => by
      obtain ⟨k, hk, e, hv⟩ := filV_mem view l (i + 1) p h
      exact ⟨k + 1, by simpa using hk, by rw [e]; simp; omega, by simpa using hv⟩
    cases hb : isV view x with
    | false => rw [hb] at h; exact rec' (by simpa using h)
    | true =>
      rw [hb] at h
      simp only [if_true, List.mem_cons] at h
      rcases h with rfl | h
      · exact ⟨0, by simp, by simp, by simpa using hb⟩
      · exact rec' h
theorem filV_rise (view : Int) : ∀ (l : List Vo) (i : Nat), (filV view l i).Pairwise (fun a b => a.1 < b.1)
  | [], i => List.Pairwise.nil
  | x :: l, i => by
    unfold filV
    cases isV view x with
    | false => simpa using filV_rise view l (i + 1)
    | true =>
      simp only [if_true]
      refine List.pairwise_cons.2 ⟨fun p hp => ?_, filV_rise view l (i + 1)⟩
      obtain ⟨k, hk, e, -⟩ := filV_mem view l (i + 1) p hp
      rw [e]; simp only; omega

/-! ### The states -/
/-- A new node that has taken votes. -/
def votS (f : Nat) (id : Int) (vo : List Vo) (k : Nat) : Ns := { newS (stdC f) id with vo := vo, used := k }
structure MvS (f : Nat) (id v : Int) (i k : Nat) (vo : List Vo) (l : Nt) : Prop where
  vn : vo.length = 3 * f + 1
  vc : vo.countP (isV v) = k
  vh : ∀ (j : Nat) (h : j < vo.length), vo[j].has = true → j < i ∧ (j : Int) ≠ id ∧ chkN l j (chgB j v) vo[j].sl = true ∧ 0 ≤ vo[j].sl ∧ vo[j].sl ≤ 1000000000
  ln : l.length = k
  lb : ∀ x ∈ l, x.1 < i
theorem mvs_zero (f : Nat) (id v : Int) : MvS f id v 0 0 (List.replicate (3 * f + 1) noVo) [] where
  vn := by simp
  vc := by rw [List.countP_replicate]; simp [isV, noVo]
  vh := fun j h hh => by simp [noVo] at hh
  ln := rfl
  lb := by simp
theorem MvS.skip {f : Nat} {id v : Int} {i k : Nat} {vo : List Vo} {l : Nt} (h : MvS f id v i k vo l) : MvS f id v (i + 1) k vo l :=
  { h with vh := fun j hj hh => let ⟨a, b⟩ := h.vh j hj hh; ⟨by omega, b⟩, lb := fun x hx => by have := h.lb x hx; omega }
/-- The seal of the next Change. -/
theorem MvS.new {f : Nat} {id v : Int} {i k : Nat} {vo : List Vo} {l : Nt} (h : MvS f id v i k vo l) (b : Bys) : ((i : Int), b) ∉ l := fun hn => by have := h.lb _ hn; simp at this
theorem MvS.put {f : Nat} {id v : Int} {i k : Nat} {vo : List Vo} {l : Nt} (h : MvS f id v i k vo l) (hi : i ≤ 3 * f) (h0 : 0 ≤ v) (h1 : v ≤ 11) : putB vo i v = true := by
  have hiv : i < vo.length := by have := h.vn; omega
  have hv : (voAt vo (i : Int).toNat).has = false := by
    unfold voAt
    rw [List.getD_eq_getElem?_getD, Int.toNat_natCast, List.getElem?_eq_getElem hiv, Option.getD_some]
    cases hb : vo[i].has with
    | false => rfl
    | true => have := (h.vh i hiv hb).1; omega
  unfold putB
  rw [hv]
  have := h.vn
  simp
  omega
theorem MvS.step {f : Nat} {id v : Int} {i k : Nat} {vo : List Vo} {l : Nt} (h : MvS f id v i k vo l) (hi : i ≤ 3 * f) (hne : (i : Int) ≠ id) (h0 : 0 ≤ v) (h1 : v ≤ 11) (hk : k ≤ 1000) :
    MvS f id v (i + 1) (k + 1) (putL vo i v (sealN l i (chgB i v))) (sealL l i (chgB i v)) := by
  have hp := h.put hi h0 h1
  have hn := h.new (chgB i v)
  have hiv : i < vo.length := by have := h.vn; omega
  have hf : isV v vo[i] = false := by
    unfold isV
    cases hb : vo[i].has with
    | false => rfl
    | true => have := (h.vh i hiv hb).1; omega
  have hsl : sealN l i (chgB i v) = (k : Int) + 1 := by unfold sealN; rw [List.idxOf_eq_length hn, h.ln]
  unfold putL
  rw [hp, if_pos rfl, Int.toNat_natCast]
  constructor
  · rw [List.length_set]; exact h.vn
  · rw [List.countP_set (h := hiv), h.vc, hf]
    simp [isV]
  · intro j hj hh
    rw [List.getElem_set] at hh ⊢
    by_cases hji : i = j
    · subst hji
      rw [if_pos rfl]
      refine ⟨by omega, hne, ?_, ?_, ?_⟩
      · unfold chkN
        rw [find_sealL]
        simp [mem_sealL]
      · simp only; omega
      · simp only; omega
    · rw [if_neg hji] at hh ⊢
      rw [List.length_set] at hj
      obtain ⟨a, b, c, d⟩ := h.vh j hj hh
      refine ⟨by omega, b, ?_, d⟩
      unfold chkN at c ⊢
      simp only [Bool.and_eq_true, decide_eq_true_eq, beq_iff_eq] at c ⊢
      exact ⟨sealL_in _ _ c.1, by rw [find_keep _ _ c.1]; exact c.2⟩
  · unfold sealL; rw [if_neg hn]; simp [h.ln]
  · intro x hx
    unfold sealL at hx
    rw [if_neg hn] at hx
    simp only [List.mem_append, List.mem_singleton] at hx
    rcases hx with hx | rfl
    · have := h.lb x hx; omega
    · simp only; omega
theorem MvS.few {f : Nat} {id v : Int} {i k : Nat} {vo : List Vo} {l : Nt} (h : MvS f id v i k vo l) (hk : k < 2 * f + 1) : (picksV vo v (2 * f + 1)).length ≠ 2 * f + 1 := by
  rw [picks_fil, List.length_take, filV_len, h.vc]; omega
theorem MvS.enough {f : Nat} {id v : Int} {i : Nat} {vo : List Vo} {l : Nt} (h : MvS f id v i (2 * f + 1) vo l) :
    (picksV vo v (2 * f + 1)).length = 2 * f + 1 ∧ Rises (picksV vo v (2 * f + 1)) (3 * (f : Int) + 1) ∧ ∀ q ∈ picksV vo v (2 * f + 1), chkN l q.1 (chgB q.1 v) q.2 = true ∧ 0 ≤ q.2 ∧ q.2 ≤ 1000000000 := by
  rw [picks_fil]
  refine ⟨by rw [List.length_take, filV_len, h.vc]; omega, ⟨(filV_rise v vo 0).take, fun p hp => ?_⟩, fun q hq => ?_⟩
  · obtain ⟨k, hk, e, -⟩ := filV_mem v vo 0 p (List.mem_of_mem_take hp)
    have := h.vn
    rw [e]; simp only; omega
  · obtain ⟨k, hk, e, hv⟩ := filV_mem v vo 0 q (List.mem_of_mem_take hq)
    unfold isV at hv
    simp only [Bool.and_eq_true] at hv
    obtain ⟨-, -, c, d⟩ := h.vh k hk hv.1
    rw [e]
    simpa using ⟨c, d⟩

/-! ### A Change that is not yet the last -/
theorem change_few {f : Nat} {id v : Int} {i k : Nat} {vo : List Vo} {l : Nt} (h : MvS f id v i k vo l) (hi : i ≤ 3 * f) (hne : (i : Int) ≠ id) (h0 : 0 ≤ v) (h1 : v ≤ 11) (hf : f ≤ 4) (hk : k + 1 < 2 * f + 1) :
    changeS (chgQ i v) (sealN l i (chgB i v)) (votS f id vo k, sealL l i (chgB i v)) = (0, (votS f id (putL vo i v (sealN l i (chgB i v))) k, sealL l i (chgB i v))) := by
  have hp := h.put hi h0 h1
  have hs := (h.step hi hne h0 h1 (by omega)).few (by omega)
  have e1 : (votS f id vo k).view = 0 := rfl
  have e2 : (votS f id vo k).vo = vo := rfl
  unfold changeS
  rw [show (chgQ i v).view = v from rfl, show (chgQ i v).fm = (i : Int) from rfl]
  simp only [e1, e2]
  rw [hp, if_neg (by simp; omega)]
  unfold afterVote enoughP
  rw [if_neg (by simp only [decide_eq_true_eq]; exact hs)]
  rfl
theorem count_few {f : Nat} {id : Int} {vo : List Vo} {k : Nat} {l : Nt} (src : Int) : countS src (0, (votS f id vo k, l)) = (votS f id vo (k + 1), l) := by
  unfold countS
  simp only [if_true]
  rfl
/-! ### The last -/
theorem change_last {f : Nat} {id v : Int} {i : Nat} {vo : List Vo} {l : Nt} (h : MvS f id v i (2 * f) vo l) (hi : i ≤ 3 * f) (hne : (i : Int) ≠ id) (h0 : 0 ≤ v) (h1 : v ≤ 11) (hf : f ≤ 4) :
    changeS (chgQ i v) (sealN l i (chgB i v)) (votS f id vo (2 * f), sealL l i (chgB i v)) = (0, moveS (v + 1) (picksV (putL vo i v (sealN l i (chgB i v))) v (2 * f + 1)) (votS f id (putL vo i v (sealN l i (chgB i v))) (2 * f), sealL l i (chgB i v))) := by
  have hp := h.put hi h0 h1
  have hs := (h.step hi hne h0 h1 (by omega)).enough.1
  have e1 : (votS f id vo (2 * f)).view = 0 := rfl
  have e2 : (votS f id vo (2 * f)).vo = vo := rfl
  unfold changeS
  rw [show (chgQ i v).view = v from rfl, show (chgQ i v).fm = (i : Int) from rfl]
  simp only [e1, e2]
  rw [hp, if_neg (by simp; omega)]
  unfold afterVote enoughP
  rw [if_pos (by simp only [decide_eq_true_eq]; exact hs)]
  rfl

end Go.Proofs.YtannckelmojkoaaGreat

/- NodeMoves, plain: the node that has gone on. -/
namespace Go.Proofs.YtannckelmojkoaaGreat
open Go.RowKit Go.Heap

theorem votes_ok {vs : Vs} {f : Nat} (hl : vs.length = 2 * f + 1) (hr : Rises vs (3 * (f : Int) + 1)) (hs : ∀ q ∈ vs, 0 ≤ q.2 ∧ q.2 ≤ 1000000000) : okVotes vs f = true := by
  have hat : ∀ k (hk : k < vs.length), voteAt vs k = vs[k] := fun k hk => by unfold voteAt; rw [List.getD_eq_getElem?_getD, List.getElem?_eq_getElem hk]; rfl
  unfold okVotes risingP
  rw [hl]
  simp only [decide_true, Bool.true_and, Bool.and_eq_true]
  refine ⟨allR_true (fun k hk => ?_), allR_true (fun k hk => ?_)⟩
  · rw [hat k (by omega)]
    have := hs _ (List.getElem_mem (show k < vs.length by omega))
    unfold inW
    simp
    omega
  · rw [hat k (by omega)]
    obtain ⟨h1, h2⟩ := hr.2 _ (List.getElem_mem (show k < vs.length by omega))
    simp only [Bool.and_eq_true, decide_eq_true_eq]
    refine ⟨?_, h2⟩
    rcases k with _ | k
    · simp only [lastV]; omega
    · simp only [lastV]
      rw [hat k (by omega)]
      exact rises_lt hr k (by omega)
theorem vt_len : ∀ (vs : Vs), (vs.flatMap vtB).length ≤ 12 * vs.length
  | [] => by simp
  | x :: vs => by
    have := vt_len vs
    have a := num_len x.1
    have b := num_len x.2
    have e : (vtB x).length = (numB x.1).length + (numB x.2).length := by unfold vtB; rw [List.length_append]
    rw [List.flatMap_cons, List.length_append, List.length_cons, e]
    omega
/-- A view change of a node that has nothing. -/
def vcB (id w : Int) (vs : Vs) : Bys := msB (vcM id w vs [])
theorem vc_len (id w : Int) {vs : Vs} (h : vs.length ≤ 100) : (vcB id w vs).length ≤ 65530 := by
  have a := num_len id
  have b := num_len w
  have e := num_len vs.length
  have g := vt_len vs
  have c : (numB 7).length = 1 := by decide
  have d : (numB 0).length = 1 := by decide
  have k : (sgnB 0).length = 1 := by decide
  have q : (numB ((([] : List Rq).length : Nat) : Int)).length = 1 := by decide
  unfold vcB vcM msB
  simp only [List.length_append]
  rw [c, d, k]
  have r1 : (listB reqB ([] : List Rq)).length = 1 := by decide
  have r2 : (listB certB ([] : List Cp)).length = 1 := by decide
  have r3 : (listB partB ([] : List Pa)).length = 1 := by decide
  have r4 : (listB vtB vs).length = (numB vs.length).length + (vs.flatMap vtB).length := by unfold listB; rw [List.length_append]
  rw [r1, r2, r3, r4]
  omega
theorem vc_body {id w : Int} {vs : Vs} (h1 : 0 ≤ id) (h2 : id ≤ 100) (h3 : 0 ≤ w) (h4 : w ≤ 100) (hl : vs.length ≤ 100) (hs : ∀ q ∈ vs, (0 ≤ q.1 ∧ q.1 ≤ 1000) ∧ 0 ≤ q.2 ∧ q.2 ≤ 1000000000) : bodyP (vcM id w vs []) = some (vcB id w vs) := by
  have h := vc_len id w hl
  have a : numOk id = true := by unfold numOk; simp; omega
  have b : numOk w = true := by unfold numOk; simp; omega
  have c : numOk 7 = true := by decide
  have d : numOk 0 = true := by decide
  have e : sgnOk 0 = true := by decide
  have r1 : listW reqW ([] : List Rq) = true := by decide
  have r2 : listW certW ([] : List Cp) = true := by decide
  have r3 : listW partW ([] : List Pa) = true := by decide
  have r4 : listW vtW vs = true := by
    unfold listW
    rw [Bool.and_eq_true]
    refine ⟨by simp; omega, List.all_eq_true.2 (fun q hq => ?_)⟩
    have := hs q hq
    unfold vtW numOk
    simp
    omega
  have hw : msW (vcM id w vs []) = true := by
    unfold msW vcM
    simp only [a, b, c, d, e, r1, r2, r3, r4]
    decide
  unfold bodyP
  rw [hw]
  simp only [Bool.true_and]
  unfold vcB at h ⊢
  rw [if_pos (by simp; omega)]
theorem vc_form {f : Nat} {cl id w : Int} {vs : Vs} (h1 : 0 ≤ id) (h2 : id ≤ 3 * f) (h3 : 1 ≤ w) (h4 : w ≤ 12) (hv : okVotes vs f = true) : formP f cl (vcM id w vs []) = true := by
  have e : okCerts f cl w [] = true := by unfold okCerts allR; rfl
  unfold formP vcM formK okNode okChange zeros bareP
  simp only [hv, e]
  unfold inW
  simp
  omega
theorem vc_open {l : Nt} {f : Nat} {cl id w : Int} {vs : Vs} (hn : l.length ≤ 1000000000) (hf : f ≤ 4) (h1 : 0 ≤ id) (h2 : id ≤ 3 * f) (h3 : 1 ≤ w) (h4 : w ≤ 12) (hl : vs.length = 2 * f + 1) (hr : Rises vs (3 * (f : Int) + 1)) (hs : ∀ q ∈ vs, 0 ≤ q.2 ∧ q.2 ≤ 1000000000) :
    bodyP (vcM id w vs []) = some (vcB id w vs) ∧ openP (sealL l id (vcB id w vs)) f cl (givE l id (vcB id w vs)) = some (vcM id w vs [], sealN l id (vcB id w vs)) ∧ givE l id (vcB id w vs) = numB (sealN l id (vcB id w vs)) ++ vcB id w vs := by
  have hb := vc_body (id := id) (w := w) (vs := vs) h1 (by omega) (by omega) (by omega) (by omega) (fun q hq => ⟨by have := hr.2 q hq; omega, hs q hq⟩)
  have h := open_give (f := f) (cl := cl) hb (vc_len id w (by omega)) hn
  rw [vc_form h1 h2 h3 h4 (votes_ok hl hr hs), if_pos rfl] at h
  exact ⟨hb, h, givE_is hn id (vc_len id w (by omega))⟩

/-! ### The node -/
theorem certs_leave (st : In) (w : Int) : certsI (leaveI st w) = certsI st := by
  unfold leaveI
  split
  · unfold certsI
    simp only [List.filter_map, List.map_map]
    rfl
  · rfl
theorem certs_new (f : Nat) (k a : Int) : certsI (newI f k a) = [] := by
  unfold certsI newI emptyPl
  simp
theorem certs_vot (f : Nat) (id w : Int) (vo : List Vo) (k : Nat) : certsAll (gone w (votS f id vo k)) = [] := by
  unfold certsAll
  rw [List.flatMap_eq_nil_iff]
  intro i hi
  have e : (gone w (votS f id vo k)).ins = ((List.range (f + 1)).map (fun (k : Nat) => newI f k 4)).map (leaveI · w) := rfl
  rw [e] at hi
  obtain ⟨j, hj, rfl⟩ := List.mem_map.1 hi
  obtain ⟨n, -, rfl⟩ := List.mem_map.1 hj
  rw [certs_leave, certs_new]
/-- It has gone on and said so. -/
def finS (f : Nat) (id w : Int) (vs : Vs) (vo : List Vo) (k : Nat) (l : Nt) : Ns :=
  { gone w (votS f id vo k) with
    out := (othersN (3 * f + 1) id).map fun j => (j, givE l id (vcB id w vs))
    pts := (List.replicate (3 * f + 1) (0, noPa)).set id.toNat (w, ⟨id, vs, [], sealN l id (vcB id w vs)⟩) }
theorem moved_fin {f : Nat} {id w : Int} {vs : Vs} {vo : List Vo} {k : Nat} {l : Nt} (hn : l.length ≤ 1000000000) (hf : f ≤ 4) (h1 : 0 ≤ id) (h2 : id ≤ 3 * f) (h3 : 1 ≤ w) (h4 : w ≤ 12) (hl : vs.length = 2 * f + 1) (hr : Rises vs (3 * (f : Int) + 1)) (hs : ∀ q ∈ vs, 0 ≤ q.2 ∧ q.2 ≤ 1000000000) :
    movedS w vs (votS f id vo k, l) = (finS f id w vs vo k l, sealL l id (vcB id w vs)) := by
  obtain ⟨hb, -, hg⟩ := vc_open (cl := 2) hn hf h1 h2 h3 h4 hl hr hs
  have hsl := sealN_ok hn id (vcB id w vs)
  have hlen := vc_len id w (by omega : vs.length ≤ 100)
  have hnl := num_len (sealN l id (vcB id w vs))
  have hseal : sealP l (vcM id w vs []) = (some (givE l id (vcB id w vs)), sealL l id (vcB id w vs)) := by
    unfold sealP
    rw [hb]
    simp only
    rw [hg]
    unfold envP
    rw [show (vcM id w vs []).fm = id from rfl, hsl, if_pos (by simp; omega)]
  unfold movedS
  simp only [certs_vot]
  have hid : (gone w (votS f id vo k)).id = id := rfl
  rw [hid]
  have hsend : sendS (gone w (votS f id vo k), l) (vcM id w vs []) = ({ gone w (votS f id vo k) with out := (othersN (3 * f + 1) id).map fun j => (j, givE l id (vcB id w vs)) }, sealL l id (vcB id w vs)) := by
    unfold sendS
    rw [show withFm (vcM id w vs []) (gone w (votS f id vo k)).id = vcM id w vs [] from rfl, hseal]
    rfl
  have hN : sendN (gone w (votS f id vo k), l) (vcM id w vs []) = sealN l id (vcB id w vs) := by
    unfold sendN sendB
    rw [show withFm (vcM id w vs []) (gone w (votS f id vo k)).id = vcM id w vs [] from rfl, hseal]
    simp only [Option.isSome_some, if_true]
    unfold msS
    rw [hb]
    rfl
  rw [hsend, hN]
  rfl
theorem fin_low {f : Nat} {id w : Int} {vs : Vs} {vo : List Vo} {k : Nat} {l : Nt} (hf1 : 1 ≤ f) (h1 : 0 ≤ id) (h2 : id ≤ 3 * f) (h3 : 1 ≤ w) : (lowP (finS f id w vs vo k l)).length ≠ 2 * f + 1 := by
  have e : (finS f id w vs vo k l).pts = (List.replicate (3 * f + 1) ((0 : Int), noPa)).set id.toNat (w, ⟨id, vs, [], sealN l id (vcB id w vs)⟩) := rfl
  have hv : (finS f id w vs vo k l).view = w := rfl
  have hc : ((finS f id w vs vo k l).pts.filter fun q => decide (0 < (finS f id w vs vo k l).view) && decide (q.1 = (finS f id w vs vo k l).view)).length ≤ 1 := by
    have g1 : (List.replicate (3 * f + 1) ((0 : Int), noPa)).countP (fun q => decide (0 < w) && decide (q.1 = w)) = 0 := by
      rw [List.countP_replicate]
      simp
      omega
    rw [e, hv, ← List.countP_eq_length_filter, List.countP_set (h := by simp; omega), g1]
    simp only [Nat.zero_sub, Nat.zero_add]
    split <;> simp
  unfold lowP
  rw [List.length_take, List.length_map]
  omega
theorem begin_few : ∀ (ks : List Nat) (p : NSt), (lowP p.1).length ≠ 2 * p.1.c.f + 1 → ks.foldl beginOne p = p
  | [], p, h => rfl
  | k :: ks, p, h => by
    rw [List.foldl_cons]
    have e : beginOne p k = p := by
      unfold beginOne
      rw [if_pos (by simp [h])]
    rw [e]
    exact begin_few ks p h
theorem move_fin {f : Nat} {id w : Int} {vs : Vs} {vo : List Vo} {k : Nat} {l : Nt} (hn : l.length ≤ 1000000000) (hf1 : 1 ≤ f) (hf : f ≤ 4) (h1 : 0 ≤ id) (h2 : id ≤ 3 * f) (h3 : 1 ≤ w) (h4 : w ≤ 12) (hl : vs.length = 2 * f + 1) (hr : Rises vs (3 * (f : Int) + 1)) (hs : ∀ q ∈ vs, 0 ≤ q.2 ∧ q.2 ≤ 1000000000) :
    moveS w vs (votS f id vo k, l) = (finS f id w vs vo k l, sealL l id (vcB id w vs)) := by
  rw [moveS_eq, moved_fin hn hf h1 h2 h3 h4 hl hr hs]
  exact begin_few _ _ (fin_low hf1 h1 h2 h3)
theorem fin_off {f : Nat} {id w : Int} {vs : Vs} {vo : List Vo} {k : Nat} {l : Nt} (h3 : 1 ≤ w) (h4 : w ≤ 12) : (insAt (finS f id w vs vo k l) 0).on = false := by
  have e : (finS f id w vs vo k l).ins = ((List.range (f + 1)).map (fun (k : Nat) => newI f k 4)).map (leaveI · w) := rfl
  unfold insAt
  rw [e, List.range_succ_eq_map]
  simp only [List.map_cons, List.getD_cons_zero]
  unfold leaveI leaveB newI
  rw [if_pos (by simp; omega)]
/-- Seven, so many times. -/
theorem kinds_sevens : ∀ (n : Nat) (c : List Int), 7 < c.length → kindsGo (List.replicate n 7) c = c.set 7 (c.getD 7 0 + n)
  | 0, c, h => by
    rw [List.getD_eq_getElem?_getD, List.getElem?_eq_getElem h]
    simp [kindsGo]
  | n + 1, c, h => by
    rw [List.replicate_succ]
    unfold kindsGo
    rw [show (7 : Int).toNat = 7 from rfl, kinds_sevens n _ (by simpa using h), List.set_set]
    congr 1
    rw [List.getD_eq_getElem?_getD, List.getElem?_eq_getElem (by simpa using h)]
    simp
    omega
theorem kindsL_sevens (n : Nat) : kindsL (List.replicate n 7) = [0, 0, 0, 0, 0, 0, 0, (n : Int), 0, 0, 0] := by
  unfold kindsL
  rw [kinds_sevens n _ (by simp)]
  simp [List.replicate]

end Go.Proofs.YtannckelmojkoaaGreat

/- give to a node; a Change given. -/
namespace Go.Proofs.YtannckelmojkoaaGreat
open Go.RowKit Go.Heap

theorem rd_bys {B : Nat} {w0 W : World} {bv : Value} {bs : Bys} {ss rs : List Res} (h : Own B w0 W rs) (hm : bysR bv bs ∈ ss) (hs : ∀ r ∈ ss, r ∈ rs) (hb : ∀ c ∈ bs, c < 256) (hl : bs.length ≤ 65536) : RdOk w0 B bv bs ss := by
  have hB : ∀ {W : World} {rs : List Res}, Own B w0 W rs → (∀ r ∈ ss, r ∈ rs) → Byt W bv bs := fun ho hh => ⟨owns_reads (ownR_owns (ho.all _ (hh _ hm)).1), hb⟩
  exact ⟨hB, byt_form (hB h hs), hl⟩
theorem giv_bytes {l : Nt} {m : Ms} {b : Bys} (hb : bodyP m = some b) (hl : b.length ≤ 65530) (hn : l.length ≤ 1000000000) : (∀ c ∈ givE l m.fm b, c < 256) ∧ (givE l m.fm b).length ≤ 65536 := by
  have h1 := sealN_ok hn m.fm b
  have h2 := num_len (sealN l m.fm b)
  rw [givE_is hn m.fm hl]
  refine ⟨fun c hc => ?_, by rw [List.length_append]; omega⟩
  rcases List.mem_append.1 hc with h | h
  · refine encN_byte 5 _ ?_ c h
    unfold numOk at h1
    simp only [Bool.and_eq_true, decide_eq_true_eq] at h1
    have : (128 : Nat) ^ (5 + 1) = 4398046511104 := by decide
    omega
  · exact (body_byte hb).1 c h

section
variable {B : Nat} {w0 w W W' : World} {ss rs : List Res} {x : Np} {s s' : Ns} {l l' : Nt} {rn : Nat} {vp vt : Value}

/-- A node that is given a message. -/
theorem give_nd {m : Mm} {b : Bys} {P : NSt} (h : NdIs B w0 W x s l (mmR m (rnR rn vp vt l ss))) (hm : MmOk m) (hn : l.length ≤ 1000000000) (h1 : -9223372036854775808 ≤ m.fm) (h2 : m.fm ≤ 9223372036854775807) (hb : bodyP m.ms = some b)
    (HT : ∀ w1 ev vp' vt', NdIs B w0 w1 x s (sealL l m.fm b) (bysR ev (givE l m.fm b) :: rnR rn vp' vt' (sealL l m.fm b) (mmR m ss)) → Calls Tryz.prog 34 #[ptrV x.p, .int .i64 m.fm, ev] w1 fun e w' => e = .returned (.tuple #[]) ∧ NdIs B w0 w' x P.1 P.2 (bysR ev (givE l m.fm b) :: rnR rn vp' vt' (sealL l m.fm b) (mmR m ss))) :
    Calls Tryz.prog 23 #[ptrV x.p, .agg (twA x.nt rn), .agg (mmA m)] W fun e w' => e = .returned (.tuple #[]) ∧ ∃ vp' vt', NdIs B w0 w' x P.1 P.2 (rnR rn vp' vt' (sealL l m.fm b) (mmR m ss)) := by
  obtain ⟨r, hs, hk⟩ := h.sideN
  have h3 : Own B w0 W (mmR m (twR x.nt x.nm rn vp vt l (ss ++ [r]))) := hs.perm ((List.perm_append_comm (l₁ := [_, _]) (l₂ := [_, _, _, _, _, _])).append_right _)
  refine give_any (K := fun w' => ∃ vp' vt', NdIs B w0 w' x P.1 P.2 (rnR rn vp' vt' (sealL l m.fm b) (mmR m ss))) h3 hm h.nok hn h1 h2 hb (fun w1 ev vp' vt' h4 => ?_)
  have h5 := hk w1 (sealL l m.fm b) (bysR ev (givE l m.fm b) :: rnR rn vp' vt' (sealL l m.fm b) (mmR m ss)) (sealL_ok h.nok (body_sok hb h1 h2)) (h4.perm ((List.perm_append_comm (l₁ := [_]) (l₂ := [_, _])).append_right _))
  refine (HT w1 ev vp' vt' h5).mono ?_
  rintro e w' ⟨he, h6⟩
  exact ⟨he, vp', vt', h6.drop⟩

theorem own_nils (h : Own B w0 W rs) (i v : Int) : Own B w0 W (mmR (chgMm i v) rs) := by
  have h1 := own_nilR 2 (own_nilR 6 h)
  have h2 : Own B w0 W (ctsR [] :: _) := h1.mkCts (by simp)
  have h3 := own_nilR 5 h2
  have h4 : Own B w0 W (ptsR [] :: _) := h3.mkPts (by simp)
  exact own_nilR 4 h4
theorem NdIs.chg (h : NdIs B w0 W x s l ss) (i v : Int) : NdIs B w0 W x s l (mmR (chgMm i v) ss) := by
  obtain ⟨r, hs, hk⟩ := h.side
  exact hk W (mmR (chgMm i v) ss) (own_nils hs i v)

theorem moved_c (w : Int) (vs : Vs) (p : NSt) : (movedS w vs p).1.c = p.1.c := by
  unfold movedS
  simp only
  unfold sendS
  split <;> rfl

/-- A Change of another, given. -/
theorem give_chg {f i k : Nat} {id v : Int} {vo : List Vo} {P : NSt} (h : NdIs B w0 W x (votS f id vo k) l (rnR rn vp vt l ss)) (hM : MvS f id v i k vo l) (hi : i ≤ 3 * f) (hne : (i : Int) ≠ id) (h0 : 0 ≤ v) (h1 : v ≤ 11) (hf1 : 1 ≤ f) (hf2 : f ≤ 4) (hk : k ≤ 1000)
    (hc : changeS (chgQ i v) (sealN l i (chgB i v)) (votS f id vo k, sealL l i (chgB i v)) = (0, P)) (hgd : P.1.gd.length ≤ 1000) (hu : P.1.used ≤ 1000000000000) (hbd : P.1.bad ≤ 1000000000000) (hsl : P.1.stale ≤ 1000000000000) (hfu : P.1.full ≤ 1000000000000)
    (hbg : enoughP (putS i v (sealN l i (chgB i v)) (votS f id vo k)) v = true → (lowP (movedS (v + 1) (picksV (putS i v (sealN l i (chgB i v)) (votS f id vo k)).vo v (2 * f + 1)) (putS i v (sealN l i (chgB i v)) (votS f id vo k), sealL l i (chgB i v))).1).length ≠ 2 * f + 1) :
    Calls Tryz.prog 23 #[ptrV x.p, .agg (twA x.nt rn), .agg (mmA (chgMm i v))] W fun e w' => e = .returned (.tuple #[]) ∧ ∃ vp' vt', NdIs B w0 w' x (countS i (0, P)).1 (countS i (0, P)).2 (rnR rn vp' vt' (sealL l i (chgB i v)) ss) := by
  have hbd2 := chg_body (i := i) (v := v) (by omega) (by omega) h0 (by omega)
  have hll : l.length ≤ 1000 := by rw [hM.ln]; exact hk
  have hsl2 := sealL_len l i (chgB i v)
  have hgb := giv_bytes (l := l) hbd2 (chg_len i v) (by omega)
  have key := give_nd (P := countS i (0, P)) (h.chg i v) ⟨by simp [chgMm], by simp [chgMm], by simp [chgMm], by simp [chgMm]⟩ (by omega) (by show -9223372036854775808 ≤ (i : Int); omega) (by show (i : Int) ≤ 9223372036854775807; omega) hbd2 (fun w1 ev vp' vt' h2 => by
    replace h2 : NdIs B w0 w1 x (votS f id vo k) (sealL l i (chgB i v)) (bysR ev (givE l i (chgB i v)) :: rnR rn vp' vt' (sealL l i (chgB i v)) (mmR (chgMm i v) ss)) := h2
    show Calls Tryz.prog 34 #[ptrV x.p, .int .i64 i, ev] w1 fun e w' => e = .returned (.tuple #[]) ∧ NdIs B w0 w' x (countS i (0, P)).1 (countS i (0, P)).2 (bysR ev (givE l i (chgB i v)) :: rnR rn vp' vt' (sealL l i (chgB i v)) (mmR (chgMm i v) ss))
    have hop : openP (sealL l i (chgB i v)) f 2 (givE l i (chgB i v)) = some (chgQ i v, sealN l i (chgB i v)) := chg_open (by omega) (by omega) (by omega) (by omega) h0 h1
    obtain ⟨r, hs, -⟩ := h2.side
    have hrd : RdOk w0 B ev (givE l i (chgB i v)) _ := rd_bys hs (by simp) (fun q hq => List.mem_append_left _ hq) hgb.1 hgb.2
    refine nTake_some (m := chgQ i v) (sl := sealN l i (chgB i v)) (v := 0) (p := P) h2 hrd rfl (by simp [votS, newS]) rfl hop (fun mm hmm => ntake_chg (congrArg Ms.kind hmm) (fun W2 ss2 h3 => ?_)) (.inl rfl) hgd hu hbd hsl hfu
    have e1 : mm.fm = i := congrArg Ms.fm hmm
    have e2 : mm.view = v := congrArg Ms.view hmm
    have e3 : changeS mm.ms (sealN l i (chgB i v)) (votS f id vo k, sealL l i (chgB i v)) = (0, P) := by rw [hmm]; exact hc
    have e4 := nchange_any (sl := sealN l i (chgB i v)) h3 (by rw [e2]; exact h0) (by rw [e2]; exact h1) (by omega) (by simp [votS, newS]) (fun he W3 ss3 h4 => by
      rw [e1, e2] at he h4 ⊢
      have h5 := hbg he
      have h6 : NdIs B w0 W3 x (movedS (v + 1) (picksV (putS i v (sealN l i (chgB i v)) (votS f id vo k)).vo v (2 * f + 1)) (putS i v (sealN l i (chgB i v)) (votS f id vo k), sealL l i (chgB i v))).1 (movedS (v + 1) (picksV (putS i v (sealN l i (chgB i v)) (votS f id vo k)).vo v (2 * f + 1)) (putS i v (sealN l i (chgB i v)) (votS f id vo k), sealL l i (chgB i v))).2 ss3 := h4
      have e7 : 2 * (movedS (v + 1) (picksV (putS i v (sealN l i (chgB i v)) (votS f id vo k)).vo v (2 * f + 1)) (putS i v (sealN l i (chgB i v)) (votS f id vo k), sealL l i (chgB i v))).1.c.f + 1 = 2 * f + 1 := by
        rw [moved_c]
        rfl
      refine (nbegin_few h6 (by rw [e7]; exact h5)).mono ?_
      rintro e w' ⟨he', h7⟩
      refine ⟨he', ?_⟩
      show NdIs B w0 w' x (beginS (movedS (v + 1) (picksV (putS i v (sealN l i (chgB i v)) (votS f id vo k)).vo v (2 * f + 1)) (putS i v (sealN l i (chgB i v)) (votS f id vo k), sealL l i (chgB i v)))).1 (beginS (movedS (v + 1) (picksV (putS i v (sealN l i (chgB i v)) (votS f id vo k)).vo v (2 * f + 1)) (putS i v (sealN l i (chgB i v)) (votS f id vo k), sealL l i (chgB i v)))).2 ss3
      rw [show beginS (movedS (v + 1) (picksV (putS i v (sealN l i (chgB i v)) (votS f id vo k)).vo v (2 * f + 1)) (putS i v (sealN l i (chgB i v)) (votS f id vo k), sealL l i (chgB i v))) = movedS (v + 1) (picksV (putS i v (sealN l i (chgB i v)) (votS f id vo k)).vo v (2 * f + 1)) (putS i v (sealN l i (chgB i v)) (votS f id vo k), sealL l i (chgB i v)) from begin_few _ _ (by rw [e7]; exact h5)]
      exact h7)
    rw [e3] at e4
    exact e4)
  exact key.mono (fun e w' ⟨he, vp', vt', h6⟩ => ⟨he, vp', vt', mm_drop (h6.perm ((List.perm_append_comm (l₁ := [_, _, _]) (l₂ := [_, _, _, _, _, _])).append_right ss))⟩)

end

section
variable {B : Nat} {w0 w W W' : World} {ss rs : List Res} {x : Np} {s s' : Ns} {l l' : Nt} {rn : Nat} {vp vt : Value}

/-- Not yet the last. -/
theorem give_few {f i k : Nat} {id v : Int} {vo : List Vo} (h : NdIs B w0 W x (votS f id vo k) l (rnR rn vp vt l ss)) (hM : MvS f id v i k vo l) (hi : i ≤ 3 * f) (hne : (i : Int) ≠ id) (h0 : 0 ≤ v) (h1 : v ≤ 11) (hf1 : 1 ≤ f) (hf2 : f ≤ 4) (hk : k + 1 < 2 * f + 1) :
    Calls Tryz.prog 23 #[ptrV x.p, .agg (twA x.nt rn), .agg (mmA (chgMm i v))] W fun e w' => e = .returned (.tuple #[]) ∧ ∃ vo' l' vp' vt', MvS f id v (i + 1) (k + 1) vo' l' ∧ NdIs B w0 w' x (votS f id vo' (k + 1)) l' (rnR rn vp' vt' l' ss) := by
  have hs := hM.step hi hne h0 h1 (by omega)
  refine (give_chg h hM hi hne h0 h1 hf1 hf2 (by omega) (change_few hM hi hne h0 h1 hf2 hk) (by simp [votS, newS]) (by simp only [votS]; omega) (by simp [votS, newS]) (by simp [votS, newS]) (by simp [votS, newS]) (fun he => ?_)).mono ?_
  · exfalso
    exact hs.few hk (of_decide_eq_true he)
  · rintro e w' ⟨he, vp', vt', h2⟩
    rw [count_few] at h2
    exact ⟨he, _, _, vp', vt', hs, h2⟩
/-- The last. -/
theorem give_last {f i : Nat} {id v : Int} {vo : List Vo} (h : NdIs B w0 W x (votS f id vo (2 * f)) l (rnR rn vp vt l ss)) (hM : MvS f id v i (2 * f) vo l) (hi : i ≤ 3 * f) (hne : (i : Int) ≠ id) (hid0 : 0 ≤ id) (hid1 : id ≤ 3 * f) (h0 : 0 ≤ v) (h1 : v ≤ 11) (hf1 : 1 ≤ f) (hf2 : f ≤ 4) :
    Calls Tryz.prog 23 #[ptrV x.p, .agg (twA x.nt rn), .agg (mmA (chgMm i v))] W fun e w' => e = .returned (.tuple #[]) ∧ ∃ vs vo' l' vp' vt', l'.length ≤ 1000 ∧ vs.length = 2 * f + 1 ∧ Rises vs (3 * (f : Int) + 1) ∧ (∀ q ∈ vs, chkN l' q.1 (chgB q.1 v) q.2 = true ∧ 0 ≤ q.2 ∧ q.2 ≤ 1000000000) ∧ NtOk l' ∧
      NdIs B w0 w' x { finS f id (v + 1) vs vo' (2 * f) l' with used := 2 * f + 1 } (sealL l' id (vcB id (v + 1) vs)) (rnR rn vp' vt' l' ss) := by
  have hs := hM.step hi hne h0 h1 (by omega)
  obtain ⟨g1, g2, g3⟩ := hs.enough
  have hln := hs.ln
  have hmv := moved_fin (f := f) (id := id) (w := v + 1) (vs := picksV (putL vo i v (sealN l i (chgB i v))) v (2 * f + 1)) (vo := putL vo i v (sealN l i (chgB i v))) (k := 2 * f) (l := sealL l i (chgB i v)) (by omega) hf2 hid0 hid1 (by omega) (by omega) g1 g2 (fun q hq => (g3 q hq).2)
  have hmf := move_fin (f := f) (id := id) (w := v + 1) (vs := picksV (putL vo i v (sealN l i (chgB i v))) v (2 * f + 1)) (vo := putL vo i v (sealN l i (chgB i v))) (k := 2 * f) (l := sealL l i (chgB i v)) (by omega) hf1 hf2 hid0 hid1 (by omega) (by omega) g1 g2 (fun q hq => (g3 q hq).2)
  have hlw := fin_low (f := f) (id := id) (w := v + 1) (vs := picksV (putL vo i v (sealN l i (chgB i v))) v (2 * f + 1)) (vo := putL vo i v (sealN l i (chgB i v))) (k := 2 * f) (l := sealL l i (chgB i v)) hf1 hid0 hid1 (by omega)
  have hcl := change_last hM hi hne h0 h1 hf2
  rw [hmf] at hcl
  have hok : NtOk (sealL l i (chgB i v)) := sealL_ok h.nok (body_sok (m := chgQ i v) (chg_body (by omega) (by omega) h0 (by omega)) (by show -9223372036854775808 ≤ (i : Int); omega) (by show (i : Int) ≤ 9223372036854775807; omega))
  refine (give_chg h hM hi hne h0 h1 hf1 hf2 (by omega) hcl (by simp [finS, gone, votS, newS]) (by simp only [finS, gone, votS]; omega) (by simp [finS, gone, votS, newS]) (by simp [finS, gone, votS, newS]) (by simp [finS, gone, votS, newS]) (fun _ => ?_)).mono ?_
  · have e : (putS i v (sealN l i (chgB i v)) (votS f id vo (2 * f))) = votS f id (putL vo i v (sealN l i (chgB i v))) (2 * f) := rfl
    rw [e]
    show (lowP (movedS (v + 1) (picksV (putL vo i v (sealN l i (chgB i v))) v (2 * f + 1)) (votS f id (putL vo i v (sealN l i (chgB i v))) (2 * f), sealL l i (chgB i v))).1).length ≠ 2 * f + 1
    rw [hmv]
    exact hlw
  · rintro e w' ⟨he, vp', vt', h2⟩
    exact ⟨he, _, _, _, vp', vt', by omega, g1, g2, g3, hok, h2⟩

end
end Go.Proofs.YtannckelmojkoaaGreat
