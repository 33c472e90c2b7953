/- A region that draws its order, walked as a plain list in the order of the text: wp_region_text. -/
import Derived.Test.YtdeadekeffficaaMix
import Derived.Test.YtdeadekeffficaaKinds
namespace Go.Mix
open Go

def autoC (ops : Array Oper) (i : Nat) : Nat := ((ops[i]?).map clsOf).getD 2

/-- At the region's end: whatever was let pass did only compute. -/
def okVals (P : Program) (ops : Array Oper) (a : Act) : Bool :=
  (List.range ops.size).all fun i => match ops[i]? with
    | some o => clsOf o != 0 || !Region.wanted o (yielded ops a.tmps) || pureOp P a o
    | none => true

/-- The post of the list: the end alone, with the look at the frame. -/
def Fin (P : Program) (ops : Array Oper) (Q : Exit → Act → World → Prop) : Exit → Act → World → Prop
  | .normal, a, w => okVals P ops a = true ∧ Q .normal a w
  | _, _, _ => False

/-- No operation writes a slot that this or an earlier one looks at. -/
def stillB (ops : Array Oper) : Bool :=
  (List.range ops.size).all fun i => (List.range ops.size).all fun j => decide (j < i) || match ops[i]?, ops[j]? with
    | some oi, some oj => match oj.dst with
      | some d => !(oi.looksAt ops).contains d
      | none => true
    | _, _ => true

section
variable {P : Program} {ops : Array Oper} {Q : Exit → Act → World → Prop}

theorem wp_NoQ {o : Oper} {a : Act} {w : World} {K : Act → World → Prop} (h : o.wp P a w K (Fin P ops Q)) : o.wp P a w K NoQ := by
  unfold Oper.wp at *
  generalize (execOp a.eval o).run P w = r at *
  cases r with
  | ok n w' =>
    cases n <;> simp only [Oper.upon] at h ⊢
    case value v => exact h
    case skip => exact h
    case defer d => exact h
    case enter f args =>
      refine Calls.mono h fun e w'' he => ?_
      cases e with
      | returned v => exact he
      | panicked ch => exact he.elim
      | outgrown => obtain ⟨_, _, hq⟩ := he; exact hq.elim
    case row row args => exact h
  | halt x w' => cases x <;> simp only [Oper.upon] at h; exact h.elim

theorem wpList_cons_fin {o : Oper} {l : List Oper} {a : Act} {w : World} (h : wpList P ops (Fin P ops Q) (o :: l) a w) :
    if Region.wanted o (yielded ops a.tmps) then o.wp P a w (wpList P ops (Fin P ops Q) l) NoQ else wpList P ops (Fin P ops Q) l (a.put o.dst undef) w := by
  unfold wpList at h
  split
  · rename_i hw
    rw [if_pos hw] at h
    rcases h with h | ⟨_, _, _, hq⟩
    · exact wp_NoQ h
    · exact hq.elim
  · rename_i hw
    rw [if_neg hw] at h
    exact h

theorem wp_out {o : Oper} {K : Act → World → Prop} {a : Act} {w : World} (h : o.wp P a w K NoQ) : ∃ ds x w', K (({ a with defers := ds } : Act).put o.dst x) w' := by
  unfold Oper.wp at h
  generalize (execOp a.eval o).run P w = r at h
  cases r with
  | ok n w' =>
    cases n <;> simp only [Oper.upon] at h
    case value v => exact ⟨a.defers, v, w', h⟩
    case skip => exact ⟨a.defers, undef, w', h⟩
    case defer d => exact ⟨d :: a.defers, undef, w', h⟩
    case enter f args =>
      obtain ⟨e, w'', _, he, _⟩ := h []
      cases e with
      | returned v => exact ⟨a.defers, v, w'', he⟩
      | panicked ch => exact he.elim
      | outgrown => obtain ⟨_, _, hq⟩ := he; exact hq.elim
    case row row args =>
      obtain ⟨v, w'', he, _⟩ := h default []
      exact ⟨a.defers, v, w'', he⟩
  | halt x w' => cases x <;> simp only [Oper.upon] at h; exact h.elim

theorem put_get {a : Act} {dst : Option Tmp} {v : Value} {ds : List Deferred} {t : Tmp} (h : dst ≠ some t) : (({ a with defers := ds } : Act).put dst v).tmps[t]? = a.tmps[t]? := by
  cases dst with
  | none => rfl
  | some d =>
    have hne : d ≠ t := fun e => h (by rw [e])
    simp [Act.put, Array.getElem?_setIfInBounds_ne hne]

/-- The list comes to an end, and what it does not write stays. -/
theorem list_out : ∀ (l : List Oper) (a : Act) (w : World), wpList P ops (Fin P ops Q) l a w → ∃ a' w', okVals P ops a' = true ∧ Q .normal a' w' ∧ ∀ t, (∀ o ∈ l, o.dst ≠ some t) → a'.tmps[t]? = a.tmps[t]? := by
  intro l
  induction l with
  | nil => intro a w h; exact ⟨a, w, h.1, h.2, fun _ _ => rfl⟩
  | cons o l ih =>
    intro a w h
    have h := wpList_cons_fin h
    split at h
    · obtain ⟨ds, x, w', hk⟩ := wp_out h
      obtain ⟨a', w'', h1, h2, h3⟩ := ih _ _ hk
      refine ⟨a', w'', h1, h2, fun t ht => ?_⟩
      rw [h3 t (fun o' ho' => ht o' (by simp [ho'])), put_get (ht o (by simp))]
    · obtain ⟨a', w'', h1, h2, h3⟩ := ih _ _ h
      refine ⟨a', w'', h1, h2, fun t ht => ?_⟩
      rw [h3 t (fun o' ho' => ht o' (by simp [ho']))]
      exact put_get (ds := a.defers) (ht o (by simp))

theorem eval_of {a a' : Act} {o : Oper} (h : ∀ t ∈ o.looksAt ops, a'.tmps[t]? = a.tmps[t]?) : ∀ x ∈ o.op.operands, a'.eval x = a.eval x := by
  intro x hx
  cases x with
  | tmp t =>
    have : t ∈ o.looksAt ops := List.mem_append_left _ (List.mem_filterMap.2 ⟨.tmp t, by simpa using hx, rfl⟩)
    simp only [Act.eval, Array.getD_eq_getD_getElem?, h t this]
  | _ => rfl

theorem wanted_of {a a' : Act} {o : Oper} (h : ∀ t ∈ o.looksAt ops, a'.tmps[t]? = a.tmps[t]?) : Region.wanted o (yielded ops a'.tmps) = Region.wanted o (yielded ops a.tmps) := by
  unfold Region.wanted
  cases hg : o.guard with
  | none => rfl
  | some gw =>
    obtain ⟨g, want⟩ := gw
    have hy : yielded ops a'.tmps g = yielded ops a.tmps g := by
      unfold yielded
      cases ht : (ops[g]?).bind (·.dst) with
      | none => rfl
      | some t =>
        have := h t (by simp [Oper.looksAt, hg, ht])
        simp [this]
    simp only [hy]

theorem pureOp_of {a a' : Act} {o : Oper} (h : ∀ x ∈ o.op.operands, a'.eval x = a.eval x) (hp : pureOp P a' o = true) : pureOp P a o = true := by
  obtain ⟨dst, op, type, pos, after, guard⟩ := o
  unfold pureOp at *
  dsimp only at h hp ⊢
  split at hp <;> (try dsimp only) <;> (try rfl)
  · rename_i x; rw [← h x (by simp [Op.operands])]; exact hp
  · rename_i x y yt; rw [← h x (by simp [Op.operands]), ← h y (by simp [Op.operands])]; exact hp
  · rename_i t x; rw [← h x (by simp [Op.operands])]; exact hp
  · exact hp
  · rename_i args ats
    split at hp
    · rename_i x hx
      rw [← h x (by have : x ∈ args := by rw [← Array.mem_toList_iff, hx]; simp
                    simp [Op.operands, Call.operands, this])]
      exact hp
    · cases hp
  · rename_i args ats
    rw [List.all_eq_true] at hp ⊢
    intro x hx
    rw [← h x (by simp only [Op.operands, Call.operands]; simpa using hx)]
    exact hp x hx
  · rename_i args ats
    rw [List.all_eq_true] at hp ⊢
    intro x hx
    rw [← h x (by simp only [Op.operands, Call.operands]; simpa using hx)]
    exact hp x hx
  · cases hp

theorem stillB_spec (h : stillB ops = true) {i j : Nat} {oi oj : Oper} (hi : ops[i]? = some oi) (hj : ops[j]? = some oj) (hij : i ≤ j) : ∀ t ∈ oi.looksAt ops, oj.dst ≠ some t := by
  intro t ht e
  simp only [stillB, List.all_eq_true, List.mem_range] at h
  have := h i (Array.getElem?_eq_some_iff.1 hi).1 j (Array.getElem?_eq_some_iff.1 hj).1
  rw [hi, hj] at this
  simp only [e, Bool.or_eq_true, decide_eq_true_eq, Bool.not_eq_true', List.contains_eq_mem, decide_eq_false_iff_not] at this
  rcases this with h | h
  · omega
  · exact h ht

theorem text_mix (hst : stillB ops = true) : ∀ (l : List Oper) (k : Nat) (a : Act) (w : World), ops.toList.drop k = l → wpList P ops (Fin P ops Q) l a w → mix P ops (fun _ => True) Q (autoC ops) (List.range' k l.length) a w := by
  intro l
  induction l with
  | nil => intro k a w _ h; exact h.2
  | cons o l ih =>
    intro k a w hl h
    have hk : ops[k]? = some o := by
      have : (ops.toList.drop k)[0]? = some o := by rw [hl]; rfl
      rw [List.getElem?_drop, Array.getElem?_toList] at this
      simpa using this
    have hl' : ops.toList.drop (k + 1) = l := by
      rw [← List.drop_drop, hl]; rfl
    have hlater : ∀ o' ∈ o :: l, ∃ j, k ≤ j ∧ ops[j]? = some o' := by
      intro o' ho'
      rw [← hl] at ho'
      obtain ⟨j, hj⟩ := List.getElem?_of_mem ho'
      rw [List.getElem?_drop, Array.getElem?_toList] at hj
      exact ⟨k + j, by omega, hj⟩
    have hout := list_out _ _ _ h
    have h := wpList_cons_fin h
    rw [List.length_cons, List.range'_succ]
    refine ⟨o, hk, ?_⟩
    have hc : autoC ops k = clsOf o := by simp [autoC, hk]
    rw [hc]
    split at h
    · rename_i hw
      by_cases hcl : clsOf o ≤ 1
      · unfold stepMix
        rw [if_pos hcl]
        -- what it runs to
        have hrun : ∃ v, (∀ w', (if clsOf o = 0 then True else w' = w) → (execOp a.eval o).run P w' = .ok (.value v) w') ∧ wpList P ops (Fin P ops Q) l (a.put o.dst v) w := by
          unfold Oper.wp at h
          cases hr : (execOp a.eval o).run P w with
          | halt x w' => rw [hr] at h; cases x <;> simp only [Oper.upon] at h; exact h.elim
          | ok n w' =>
            by_cases hc0 : clsOf o = 0
            · obtain ⟨a', w'', hv, _, hsame⟩ := hout
              have hlook : ∀ t ∈ o.looksAt ops, a'.tmps[t]? = a.tmps[t]? := fun t ht => hsame t fun o' ho' => by
                obtain ⟨j, hj, hoj⟩ := hlater o' ho'
                exact stillB_spec hst hk hoj hj t ht
              have hpure : pureOp P a o = true := by
                refine pureOp_of (eval_of hlook) ?_
                simp only [okVals, List.all_eq_true, List.mem_range] at hv
                have h1 := hv k (Array.getElem?_eq_some_iff.1 hk).1
                rw [hk] at h1
                simp only [hc0, bne_self_eq_false, Bool.false_or, Bool.or_eq_true, Bool.not_eq_true', wanted_of hlook, hw] at h1
                rcases h1 with h1 | h1
                · cases h1
                · exact h1
              obtain ⟨rfl, v, rfl, hall⟩ := pure_ind hpure _ _ _ hr
              rw [hr] at h
              exact ⟨v, fun w2 _ => hall w2, h⟩
            · have hload : ∃ t x, o.op = .load t x := by
                have h1 : clsOf o = 1 := by omega
                unfold clsOf at h1
                split at h1 <;> first | (rename_i heq; exact ⟨_, _, heq⟩) | omega
              obtain ⟨t, x, hop⟩ := hload
              obtain ⟨rfl, v, rfl⟩ := load_value hop hr
              rw [hr] at h
              refine ⟨v, fun w2 h2 => ?_, h⟩
              rw [if_neg hc0] at h2
              subst h2
              exact hr
        obtain ⟨v, h1, h2⟩ := hrun
        exact ⟨v, .inl ⟨hw, h1⟩, ih (k + 1) _ _ hl' h2⟩
      · unfold stepMix
        rw [if_neg hcl]
        unfold Loud
        rw [if_pos hw]
        exact Oper.wp_post (Q := NoQ) (fun a' w' h' => ⟨trivial, ih (k + 1) _ _ hl' h'⟩) h
    · rename_i hw
      have hw' : Region.wanted o (yielded ops a.tmps) = false := by simpa using hw
      by_cases hcl : clsOf o ≤ 1
      · unfold stepMix
        rw [if_pos hcl]
        exact ⟨undef, .inr ⟨hw', rfl⟩, ih (k + 1) _ _ hl' h⟩
      · unfold stepMix
        rw [if_neg hcl]
        unfold Loud
        rw [if_neg (by simp [hw'])]
        exact ⟨trivial, ih (k + 1) _ _ hl' h⟩

/-- THE RULE: a region that draws its order is walked as a list, in the order of the text; at its end 'okVals' is looked at. -/
theorem wp_region_text {id : Nat} {a : Act} {w : World} (hm : P.follows .mixedOrders = true) (hok : (okRegion ops (autoC ops) && stillB ops) = true)
    (h : wpList P ops (Fin P ops Q) ops.toList a w.drew) : (Code.region id ops true).wp P Q a w := by
  simp only [Bool.and_eq_true] at hok
  refine wp_region_mix (fun _ => True) (autoC ops) hm hok.1 trivial ?_
  have := text_mix hok.2 ops.toList 0 a w.drew rfl h
  rw [Array.length_toList, ← List.range_eq_range'] at this
  exact this

/-- The same, the operations written out. -/
theorem wp_text {id : Nat} {l : List Oper} {a : Act} {w : World} (hm : P.follows .mixedOrders = true) (hok : (okRegion l.toArray (autoC l.toArray) && stillB l.toArray) = true)
    (h : wpList P l.toArray (Fin P l.toArray Q) l a w.drew) : (Code.region id l.toArray true).wp P Q a w := wp_region_text hm hok h

end
end Go.Mix
