/- wp_text, where a slot is written that an earlier 'move' has looked at ('x = append(x, ..)'). -/
import Derived.Test.YtdeadekeffficaaText
namespace Go.Mix
open Go

/-- It only computes, whatever the frame holds. -/
def calm (o : Oper) : Bool :=
  match o.op with
  | .move _ | .assign _ | .extract _ _ | .pick _ _ _ | .field _ _ _ | .indexAddr _ _ _ | .index _ _ _ | .slice _ _ _ _ _ | .makeInterface _ _ => true
  | _ => false

/-- No operation writes a slot that this or an earlier one looks at, but where the earlier one only computes whatever it sees. -/
def stillB2 (ops : Array Oper) : Bool :=
  (List.range ops.size).all fun i => (List.range ops.size).all fun j => decide (j < i) || match ops[i]?, ops[j]? with
    | some oi, some oj => calm oi || match oj.dst with
      | some d => !(oi.looksAt ops).contains d
      | none => true
    | _, _ => true

section
variable {P : Program} {ops : Array Oper} {Q : Exit → Act → World → Prop}

theorem calm_pure {a : Act} {o : Oper} (h : calm o = true) : pureOp P a o = true := by
  obtain ⟨dst, op, type, pos, after, guard⟩ := o
  unfold calm at h
  unfold pureOp
  dsimp only at h ⊢
  split at h <;> first | rfl | cases h

theorem stillB2_spec (h : stillB2 ops = true) {i j : Nat} {oi oj : Oper} (hc : calm oi = false) (hi : ops[i]? = some oi) (hj : ops[j]? = some oj) (hij : i ≤ j) : ∀ t ∈ oi.looksAt ops, oj.dst ≠ some t := by
  intro t ht e
  simp only [stillB2, List.all_eq_true, List.mem_range] at h
  have := h i (Array.getElem?_eq_some_iff.1 hi).1 j (Array.getElem?_eq_some_iff.1 hj).1
  rw [hi, hj] at this
  simp only [e, hc, Bool.false_or, Bool.or_eq_true, decide_eq_true_eq, Bool.not_eq_true', List.contains_eq_mem, decide_eq_false_iff_not] at this
  rcases this with h | h
  · omega
  · exact h ht

theorem text_mix2 (hst : stillB2 ops = true) : ∀ (l : List Oper) (k : Nat) (a : Act) (w : World), ops.toList.drop k = l → wpList P ops (Fin P ops Q) l a w → mix P ops (fun _ => True) Q (autoC ops) (List.range' k l.length) a w := by
  intro l
  induction l with
  | nil => intro k a w _ h; exact h.2
  | cons o l ih =>
    intro k a w hl h
    have hk : ops[k]? = some o := by
      have : (ops.toList.drop k)[0]? = some o := by rw [hl]; rfl
      rw [List.getElem?_drop, Array.getElem?_toList] at this
      simpa using this
    have hl' : ops.toList.drop (k + 1) = l := by
      rw [← List.drop_drop, hl]; rfl
    have hlater : ∀ o' ∈ o :: l, ∃ j, k ≤ j ∧ ops[j]? = some o' := by
      intro o' ho'
      rw [← hl] at ho'
      obtain ⟨j, hj⟩ := List.getElem?_of_mem ho'
      rw [List.getElem?_drop, Array.getElem?_toList] at hj
      exact ⟨k + j, by omega, hj⟩
    have hout := list_out _ _ _ h
    have h := wpList_cons_fin h
    rw [List.length_cons, List.range'_succ]
    refine ⟨o, hk, ?_⟩
    have hc : autoC ops k = clsOf o := by simp [autoC, hk]
    rw [hc]
    split at h
    · rename_i hw
      by_cases hcl : clsOf o ≤ 1
      · unfold stepMix
        rw [if_pos hcl]
        -- what it runs to
        have hrun : ∃ v, (∀ w', (if clsOf o = 0 then True else w' = w) → (execOp a.eval o).run P w' = .ok (.value v) w') ∧ wpList P ops (Fin P ops Q) l (a.put o.dst v) w := by
          unfold Oper.wp at h
          cases hr : (execOp a.eval o).run P w with
          | halt x w' => rw [hr] at h; cases x <;> simp only [Oper.upon] at h; exact h.elim
          | ok n w' =>
            by_cases hc0 : clsOf o = 0
            · have hpure : pureOp P a o = true := by
               by_cases hcm : calm o = true
               · exact calm_pure hcm
               obtain ⟨a', w'', hv, _, hsame⟩ := hout
               have hlook : ∀ t ∈ o.looksAt ops, a'.tmps[t]? = a.tmps[t]? := fun t ht => hsame t fun o' ho' => by
                 obtain ⟨j, hj, hoj⟩ := hlater o' ho'
                 exact stillB2_spec hst (by simpa using hcm) hk hoj hj t ht
               refine pureOp_of (eval_of hlook) ?_
               simp only [okVals, List.all_eq_true, List.mem_range] at hv
               have h1 := hv k (Array.getElem?_eq_some_iff.1 hk).1
               rw [hk] at h1
               simp only [hc0, bne_self_eq_false, Bool.false_or, Bool.or_eq_true, Bool.not_eq_true', wanted_of hlook, hw] at h1
               rcases h1 with h1 | h1
               · cases h1
               · exact h1
              obtain ⟨rfl, v, rfl, hall⟩ := pure_ind hpure _ _ _ hr
              rw [hr] at h
              exact ⟨v, fun w2 _ => hall w2, h⟩
            · have hload : ∃ t x, o.op = .load t x := by
                have h1 : clsOf o = 1 := by omega
                unfold clsOf at h1
                split at h1 <;> first | (rename_i heq; exact ⟨_, _, heq⟩) | omega
              obtain ⟨t, x, hop⟩ := hload
              obtain ⟨rfl, v, rfl⟩ := load_value hop hr
              rw [hr] at h
              refine ⟨v, fun w2 h2 => ?_, h⟩
              rw [if_neg hc0] at h2
              subst h2
              exact hr
        obtain ⟨v, h1, h2⟩ := hrun
        exact ⟨v, .inl ⟨hw, h1⟩, ih (k + 1) _ _ hl' h2⟩
      · unfold stepMix
        rw [if_neg hcl]
        unfold Loud
        rw [if_pos hw]
        exact Oper.wp_post (Q := NoQ) (fun a' w' h' => ⟨trivial, ih (k + 1) _ _ hl' h'⟩) h
    · rename_i hw
      have hw' : Region.wanted o (yielded ops a.tmps) = false := by simpa using hw
      by_cases hcl : clsOf o ≤ 1
      · unfold stepMix
        rw [if_pos hcl]
        exact ⟨undef, .inr ⟨hw', rfl⟩, ih (k + 1) _ _ hl' h⟩
      · unfold stepMix
        rw [if_neg hcl]
        unfold Loud
        rw [if_neg (by simp [hw'])]
        exact ⟨trivial, ih (k + 1) _ _ hl' h⟩

theorem wp_region_text2 {id : Nat} {a : Act} {w : World} (hm : P.follows .mixedOrders = true) (hok : (okRegion ops (autoC ops) && stillB2 ops) = true)
    (h : wpList P ops (Fin P ops Q) ops.toList a w.drew) : (Code.region id ops true).wp P Q a w := by
  simp only [Bool.and_eq_true] at hok
  refine wp_region_mix (fun _ => True) (autoC ops) hm hok.1 trivial ?_
  have := text_mix2 hok.2 ops.toList 0 a w.drew rfl h
  rw [Array.length_toList, ← List.range_eq_range'] at this
  exact this

/-- The rule, the operations written out. -/
theorem wp_text2 {id : Nat} {l : List Oper} {a : Act} {w : World} (hm : P.follows .mixedOrders = true) (hok : (okRegion l.toArray (autoC l.toArray) && stillB2 l.toArray) = true)
    (h : wpList P l.toArray (Fin P l.toArray Q) l a w.drew) : (Code.region id l.toArray true).wp P Q a w := wp_region_text2 hm hok h

end
end Go.Mix
