/- A region that draws its order may be walked in the order of the text: each operation that only computes is asked for its value in every world where S holds, each that only reads for its value where it stands, each other keeps S. -/
import Derived.Orders
import Derived.Tactics
namespace Go.Mix
open Go

section
variable {P : Program} {ops : Array Oper} {Q : Exit → Act → World → Prop} {S : World → Prop}

def NoQ : Exit → Act → World → Prop := fun _ _ _ => False

/-- Operation o yields v: class 0: wherever S holds; else in this world. -/
def Gives (P : Program) (ops : Array Oper) (S : World → Prop) (c : Nat) (o : Oper) (v : Value) (a : Act) (w : World) : Prop :=
  (Region.wanted o (yielded ops a.tmps) = true ∧ ∀ w', (if c = 0 then S w' else w' = w) → (execOp a.eval o).run P w' = .ok (.value v) w') ∨
  (Region.wanted o (yielded ops a.tmps) = false ∧ v = undef)

def Loud (P : Program) (ops : Array Oper) (S : World → Prop) (o : Oper) (K : Act → World → Prop) (a : Act) (w : World) : Prop :=
  if Region.wanted o (yielded ops a.tmps) then o.wp P a w (fun a' w' => S w' ∧ K a' w') NoQ else S w ∧ K (a.put o.dst undef) w

def stepMix (P : Program) (ops : Array Oper) (S : World → Prop) (c : Nat) (o : Oper) (K : Act → World → Prop) (a : Act) (w : World) : Prop :=
  if c ≤ 1 then ∃ v, Gives P ops S c o v a w ∧ K (a.put o.dst v) w else Loud P ops S o K a w

theorem Oper.wp_post {o : Oper} {a : Act} {w : World} {K K' : Act → World → Prop} (h : ∀ a w, K a w → K' a w) (hh : o.wp P a w K NoQ) : o.wp P a w K' Q := by
  unfold Oper.wp at *
  generalize (execOp a.eval o).run P w = r at *
  cases r with
  | ok n w' =>
    cases n <;> simp only [Oper.upon] at hh ⊢
    case value v => exact h _ _ hh
    case skip => exact h _ _ hh
    case defer d => exact h _ _ hh
    case enter f args =>
      refine Calls.mono hh fun e w'' he => ?_
      cases e with
      | returned v => exact h _ _ he
      | panicked ch => exact he.elim
      | outgrown => obtain ⟨_, _, hq⟩ := he; exact hq.elim
    case row row args => exact Rows.mono hh fun _ _ he => h _ _ he
  | halt x w' => cases x <;> simp only [Oper.upon] at hh; exact hh.elim

theorem loud_mono {o : Oper} {K K' : Act → World → Prop} (h : ∀ a w, K a w → K' a w) {a : Act} {w : World} (hh : Loud P ops S o K a w) : Loud P ops S o K' a w := by
  unfold Loud at *
  split
  · rename_i hw; rw [if_pos hw] at hh; exact Oper.wp_post (fun a w ⟨h1, h2⟩ => ⟨h1, h a w h2⟩) hh
  · rename_i hw; rw [if_neg hw] at hh; exact ⟨hh.1, h _ _ hh.2⟩

theorem step_mono {c : Nat} {o : Oper} {K K' : Act → World → Prop} (h : ∀ a w, K a w → K' a w) {a : Act} {w : World} (hh : stepMix P ops S c o K a w) : stepMix P ops S c o K' a w := by
  unfold stepMix at *
  split
  · rename_i hc; rw [if_pos hc] at hh; obtain ⟨v, h1, h2⟩ := hh; exact ⟨v, h1, h _ _ h2⟩
  · rename_i hc; rw [if_neg hc] at hh; exact loud_mono h hh

/-! ### Two operations change places -/

theorem gives_same {c : Nat} {o : Oper} {v : Value} {a a' : Act} {w : World} (he : execOp a'.eval o = execOp a.eval o) (hw : Region.wanted o (yielded ops a'.tmps) = Region.wanted o (yielded ops a.tmps)) :
    Gives P ops S c o v a' w ↔ Gives P ops S c o v a w := by
  unfold Gives; rw [he, hw]

theorem gives_put {c : Nat} {o : Oper} (hs : ∀ cs b, o.op ≠ .select cs b) {v : Value} {a : Act} {dst : Option Tmp} {u : Value} {w : World} (h : ∀ d, dst = some d → d ∉ o.looksAt ops) :
    Gives P ops S c o v (a.put dst u) w ↔ Gives P ops S c o v a w :=
  gives_same (execOp_put o hs a dst u h) (wanted_put o a dst u h)

theorem gives_world {c : Nat} (hc : c = 0) {o : Oper} {v : Value} {a : Act} {w w' : World} (h : Gives P ops S c o v a w) : Gives P ops S c o v a w' := by
  subst hc; exact h

theorem gives_one {o : Oper} {v u : Value} {a : Act} {w w' : World} (hS : S w') (h1 : Gives P ops S 0 o v a w) (h2 : Gives P ops S 0 o u a w) : v = u := by
  rcases h1 with ⟨a1, b1⟩ | ⟨a1, b1⟩ <;> rcases h2 with ⟨a2, b2⟩ | ⟨a2, b2⟩
  · have := (b1 w' hS).symm.trans (b2 w' hS); simpa using this
  · rw [a1] at a2; cases a2
  · rw [a1] at a2; cases a2
  · rw [b1, b2]

/-- A loud operation comes to some end. -/
theorem loud_out {o : Oper} {K : Act → World → Prop} {a : Act} {w : World} (h : Loud P ops S o K a w) : ∃ ds x w', S w' ∧ K (({ a with defers := ds } : Act).put o.dst x) w' := by
  unfold Loud at h
  split at h
  · unfold Oper.wp at h
    generalize (execOp a.eval o).run P w = r at h
    cases r with
    | ok n w' =>
      cases n <;> simp only [Oper.upon] at h
      case value v => exact ⟨a.defers, v, w', h⟩
      case skip => exact ⟨a.defers, undef, w', h⟩
      case defer d => exact ⟨d :: a.defers, undef, w', h⟩
      case enter f args =>
        obtain ⟨e, w'', _, he, _⟩ := h []
        cases e with
        | returned v => exact ⟨a.defers, v, w'', he⟩
        | panicked ch => exact he.elim
        | outgrown => obtain ⟨_, _, hq⟩ := he; exact hq.elim
      case row row args =>
        obtain ⟨v, w'', he, _⟩ := h default []
        exact ⟨a.defers, v, w'', he⟩
    | halt x w' => cases x <;> simp only [Oper.upon] at h; exact h.elim
  · exact ⟨a.defers, undef, w, h⟩

theorem eval_defers (a : Act) (ds : List Deferred) : ({ a with defers := ds } : Act).eval = a.eval := by
  funext x; cases x <;> rfl

theorem gives_defers {c : Nat} {o : Oper} {v : Value} {a : Act} {ds : List Deferred} {w : World} : Gives P ops S c o v ({ a with defers := ds } : Act) w ↔ Gives P ops S c o v a w :=
  gives_same (by rw [eval_defers]) rfl

/-- The quiet one, o, goes ahead of the loud one, p. -/
theorem loud_quiet {o p : Oper} (hap : o.apart ops p = true) (hso : ∀ cs b, o.op ≠ .select cs b) (hsp : ∀ cs b, p.op ≠ .select cs b) {K : Act → World → Prop} {a : Act} {w : World}
    (h : Loud P ops S p (fun a' w' => ∃ v, Gives P ops S 0 o v a' w' ∧ K (a'.put o.dst v) w') a w) : ∃ v, Gives P ops S 0 o v a w ∧ Loud P ops S p K (a.put o.dst v) w := by
  obtain ⟨h1, h2, h3⟩ := Oper.apart_spec hap
  obtain ⟨ds, x, w', _, v, hv, _⟩ := loud_out h
  rw [gives_put hso h3, gives_defers] at hv
  have hv : Gives P ops S 0 o v a w := gives_world rfl hv
  refine ⟨v, hv, ?_⟩
  have keep : ∀ (ds : List Deferred) (u : Value) (w' : World), S w' → (∃ v', Gives P ops S 0 o v' (({ a with defers := ds } : Act).put p.dst u) w' ∧ K ((({ a with defers := ds } : Act).put p.dst u).put o.dst v') w') →
      K ((({ a with defers := ds } : Act).put p.dst u).put o.dst v) w' := by
    rintro ds u w' hS ⟨v', h4, h5⟩
    rw [gives_put hso h3, gives_defers] at h4
    have : v = v' := gives_one hS (w := w) hv (gives_world rfl h4)
    rw [this]; exact h5
  unfold Loud at *
  rw [wanted_put p a o.dst v h1]
  split
  · rename_i hw
    rw [if_pos hw] at h
    unfold Oper.wp at *
    rw [execOp_put p hsp a o.dst v h1]
    generalize (execOp a.eval p).run P w = r at *
    cases r with
    | ok n w' =>
      cases n <;> simp only [Oper.upon] at h ⊢
      case value u => exact ⟨h.1, by rw [Act.put_comm a v u h2]; exact keep a.defers u w' h.1 h.2⟩
      case skip => exact ⟨h.1, by rw [Act.put_comm a v undef h2]; exact keep a.defers undef w' h.1 h.2⟩
      case defer d =>
        refine ⟨h.1, ?_⟩
        rw [Act.put_defers, Act.put_comm _ v undef h2]
        exact keep _ undef w' h.1 h.2
      case enter f args =>
        refine Calls.mono h fun e w'' he => ?_
        cases e with
        | returned u => exact ⟨he.1, by rw [Act.put_comm a v u h2]; exact keep a.defers u w'' he.1 he.2⟩
        | panicked ch => exact he.elim
        | outgrown => obtain ⟨_, _, hq⟩ := he; exact hq.elim
      case row row args => exact Rows.mono h fun u w'' he => ⟨he.1, by rw [Act.put_comm a v u h2]; exact keep a.defers u w'' he.1 he.2⟩
    | halt x w' => cases x <;> simp only [Oper.upon] at h; exact h.elim
  · rename_i hw
    rw [if_neg hw] at h
    exact ⟨h.1, by rw [Act.put_comm a v undef h2]; exact keep a.defers undef w h.1 h.2⟩

/-- The loud one, p, goes ahead of the quiet one, o. -/
theorem quiet_loud {o p : Oper} (hap : o.apart ops p = true) (hso : ∀ cs b, o.op ≠ .select cs b) (hsp : ∀ cs b, p.op ≠ .select cs b) {K : Act → World → Prop} {a : Act} {w : World} {v : Value}
    (hv : Gives P ops S 0 o v a w) (h : Loud P ops S p K (a.put o.dst v) w) : Loud P ops S p (fun a' w' => ∃ v, Gives P ops S 0 o v a' w' ∧ K (a'.put o.dst v) w') a w := by
  obtain ⟨h1, h2, h3⟩ := Oper.apart_spec hap
  have keep : ∀ (ds : List Deferred) (u : Value) (w' : World), K ((({ a with defers := ds } : Act).put p.dst u).put o.dst v) w' →
      (∃ v', Gives P ops S 0 o v' (({ a with defers := ds } : Act).put p.dst u) w' ∧ K ((({ a with defers := ds } : Act).put p.dst u).put o.dst v') w') := by
    intro ds u w' hk
    refine ⟨v, ?_, hk⟩
    rw [gives_put hso h3, gives_defers]
    exact gives_world rfl hv
  unfold Loud at *
  rw [wanted_put p a o.dst v h1] at h
  split
  · rename_i hw
    rw [if_pos hw] at h
    unfold Oper.wp at *
    rw [execOp_put p hsp a o.dst v h1] at h
    generalize (execOp a.eval p).run P w = r at *
    cases r with
    | ok n w' =>
      cases n <;> simp only [Oper.upon] at h ⊢
      case value u => exact ⟨h.1, keep a.defers u w' (by have := h.2; rw [Act.put_comm a v u h2] at this; exact this)⟩
      case skip => exact ⟨h.1, keep a.defers undef w' (by have := h.2; rw [Act.put_comm a v undef h2] at this; exact this)⟩
      case defer d =>
        refine ⟨h.1, keep _ undef w' ?_⟩
        have := h.2
        rw [Act.put_defers, Act.put_comm _ v undef h2] at this
        exact this
      case enter f args =>
        refine Calls.mono h fun e w'' he => ?_
        cases e with
        | returned u => exact ⟨he.1, keep a.defers u w'' (by have := he.2; rw [Act.put_comm a v u h2] at this; exact this)⟩
        | panicked ch => exact he.elim
        | outgrown => obtain ⟨_, _, hq⟩ := he; exact hq.elim
      case row row args => exact Rows.mono h fun u w'' he => ⟨he.1, keep a.defers u w'' (by have := he.2; rw [Act.put_comm a v u h2] at this; exact this)⟩
    | halt x w' => cases x <;> simp only [Oper.upon] at h; exact h.elim
  · rename_i hw
    rw [if_neg hw] at h
    exact ⟨h.1, keep a.defers undef w (by have := h.2; rw [Act.put_comm a v undef h2] at this; exact this)⟩

/-- Which two may change places. -/
def mayPass (c d : Nat) : Bool := c == 0 || d == 0 || (decide (c ≤ 1) && decide (d ≤ 1))

theorem swap {c d : Nat} {o p : Oper} (hcd : mayPass c d = true) (hap : o.apart ops p = true) (hso : ∀ cs b, o.op ≠ .select cs b) (hsp : ∀ cs b, p.op ≠ .select cs b) {K : Act → World → Prop} {a : Act} {w : World}
    (h : stepMix P ops S d p (fun a' w' => stepMix P ops S c o K a' w') a w) : stepMix P ops S c o (fun a' w' => stepMix P ops S d p K a' w') a w := by
  obtain ⟨h1, h2, h3⟩ := Oper.apart_spec hap
  by_cases hd : d ≤ 1
  · by_cases hc : c ≤ 1
    · simp only [stepMix, if_pos hd, if_pos hc] at *
      obtain ⟨v, hv, u, hu, hk⟩ := h
      rw [gives_put hso h3] at hu
      refine ⟨u, hu, v, ?_, ?_⟩
      · rw [gives_put hsp h1]; exact hv
      · rw [Act.put_comm a u v h2]; exact hk
    · simp only [stepMix, if_pos hd, if_neg hc] at *
      have hd0 : d = 0 := by
        simp only [mayPass, Bool.or_eq_true, beq_iff_eq, Bool.and_eq_true, decide_eq_true_eq] at hcd
        omega
      subst hd0
      obtain ⟨v, hv, hl⟩ := h
      have hap' : p.apart ops o = true := by
        simp only [Oper.apart, Bool.and_eq_true] at hap ⊢
        refine ⟨?_, ?_⟩
        · cases hpd : p.dst with
          | none => rfl
          | some e =>
            simp only [Bool.and_eq_true, Bool.not_eq_true', bne_iff_ne, ne_eq]
            refine ⟨?_, fun he => h2 e he (by rw [hpd])⟩
            have := h3 e hpd
            simpa using this
        · cases hod : o.dst with
          | none => rfl
          | some e => have := h1 e hod; simpa using this
      exact quiet_loud hap' hsp hso hv hl
  · by_cases hc : c ≤ 1
    · simp only [stepMix, if_neg hd, if_pos hc] at *
      have hc0 : c = 0 := by
        simp only [mayPass, Bool.or_eq_true, beq_iff_eq, Bool.and_eq_true, decide_eq_true_eq] at hcd
        omega
      subst hc0
      exact loud_quiet hap hso hsp h
    · simp only [mayPass, Bool.or_eq_true, beq_iff_eq, Bool.and_eq_true, decide_eq_true_eq] at hcd
      omega

/-! ### The list of what is still to come -/

def mix (P : Program) (ops : Array Oper) (S : World → Prop) (Q : Exit → Act → World → Prop) (c : Nat → Nat) : List Nat → Act → World → Prop
  | [], a, w => Q .normal a w
  | i :: R, a, w => ∃ o, ops[i]? = some o ∧ stepMix P ops S (c i) o (mix P ops S Q c R) a w

/-- i may go ahead of j, which stands before it in the text. -/
def pairOk (ops : Array Oper) (c : Nat → Nat) (i j : Nat) : Bool :=
  match ops[i]?, ops[j]? with
  | some o, some p => mayPass (c i) (c j) && o.apart ops p
  | _, _ => false

theorem pull (c : Nat → Nat) (hsel : Region.noSelect ops = true) : ∀ (R : List Nat) (i : Nat) (a : Act) (w : World), R.Pairwise (· < ·) → i ∈ R → (∀ j ∈ R, j < i → pairOk ops c i j = true) →
    mix P ops S Q c R a w → ∃ o, ops[i]? = some o ∧ stepMix P ops S (c i) o (mix P ops S Q c (R.erase i)) a w := by
  intro R
  induction R with
  | nil => intro i a w _ hi; cases hi
  | cons j R ih =>
    intro i a w hs hi hp h
    by_cases hji : j = i
    · subst hji
      simp only [List.erase_cons_head]
      exact h
    · have hi' : i ∈ R := by
        rcases List.mem_cons.1 hi with e | e
        · exact absurd e.symm hji
        · exact e
      have hlt : j < i := (List.pairwise_cons.1 hs).1 i hi'
      have hpij := hp j (by simp) hlt
      obtain ⟨p, hpj, hst⟩ := h
      unfold pairOk at hpij
      rw [hpj] at hpij
      cases hoi : ops[i]? with
      | none => rw [hoi] at hpij; cases hpij
      | some o =>
        rw [hoi] at hpij
        simp only [Bool.and_eq_true] at hpij
        refine ⟨o, rfl, ?_⟩
        rw [List.erase_cons_tail (by simpa using hji)]
        have h2 := step_mono (K' := fun a' w' => stepMix P ops S (c i) o (mix P ops S Q c (R.erase i)) a' w') (fun a' w' hm => by
          obtain ⟨o', ho', hst'⟩ := ih i a' w' (List.pairwise_cons.1 hs).2 hi' (fun k hk => hp k (by simp [hk])) hm
          rw [hoi] at ho'
          cases ho'
          exact hst') hst
        refine step_mono (fun a' w' hm => ⟨p, hpj, hm⟩) (swap hpij.1 hpij.2 (fun cs b => Region.noSelect_spec hsel i o cs b hoi) (fun cs b => Region.noSelect_spec hsel j p cs b hpj) h2)

theorem stepMix_wpOp {c : Nat} {i : Nat} {o : Oper} (ho : ops[i]? = some o) {K : Act → World → Prop} {a : Act} {w : World} (hS : S w) (h : stepMix P ops S c o K a w) : wpOp P ops Q i (fun a' w' => S w' ∧ K a' w') a w := by
  unfold stepMix at h
  unfold wpOp
  simp only [ho]
  split at h
  · obtain ⟨v, hv, hk⟩ := h
    rcases hv with ⟨h1, h2⟩ | ⟨h1, rfl⟩
    · rw [if_pos h1]
      refine .inl ?_
      unfold Oper.wp
      rw [h2 w (by split <;> first | exact hS | rfl)]
      exact ⟨hS, hk⟩
    · rw [if_neg (by simp [h1])]
      exact ⟨hS, hk⟩
  · unfold Loud at h
    split at h
    · rename_i hw
      rw [if_pos hw]
      exact .inl (Oper.wp_post (fun _ _ h => h) h)
    · rename_i hw
      rw [if_neg hw]
      exact h

/-! ### What an operation waits for, at whatever remove -/

inductive Anc (ops : Array Oper) : Nat → Nat → Prop where
  | near {i : Nat} {o : Oper} {e : Edge} : ops[i]? = some o → e ∈ o.after → Region.binds .any e = true → Anc ops i e.on
  | far {i j : Nat} {o : Oper} {e : Edge} : ops[i]? = some o → e ∈ o.after → Region.binds .any e = true → Anc ops e.on j → Anc ops i j

def Closed (ops : Array Oper) (listed : Array Bool) : Prop :=
  ∀ j oj, ops[j]? = some oj → listed.getD j false = true → ∀ e ∈ oj.after, Region.binds .any e = true → listed.getD e.on false = true

theorem Anc.listed {listed : Array Bool} (hc : Closed ops listed) {i j : Nat} (h : Anc ops i j) : (∀ o, ops[i]? = some o → ∀ e ∈ o.after, Region.binds .any e = true → listed.getD e.on false = true) → listed.getD j false = true := by
  induction h with
  | near ho he hb => exact fun h => h _ ho _ he hb
  | far ho he hb _ ih =>
    intro h
    refine ih fun o' ho' e' he' hb' => ?_
    exact hc _ o' ho' (h _ ho _ he hb) e' he' hb'

def maskOf (acc : Array Nat) (es : List Edge) : Nat := es.foldl (fun s e => if Region.binds .any e then s ||| 2 ^ e.on ||| acc.getD e.on 0 else s) 0

def masks : List Oper → Array Nat → Array Nat
  | [], acc => acc
  | o :: rest, acc => masks rest (acc.push (maskOf acc o.after.toList))

theorem maskOf_bit (acc : Array Nat) (j : Nat) : ∀ (es : List Edge) (s : Nat), (es.foldl (fun s e => if Region.binds .any e then s ||| 2 ^ e.on ||| acc.getD e.on 0 else s) s).testBit j = true →
    s.testBit j = true ∨ ∃ e ∈ es, Region.binds .any e = true ∧ (e.on = j ∨ (acc.getD e.on 0).testBit j = true) := by
  intro es
  induction es with
  | nil => intro s h; exact .inl h
  | cons e es ih =>
    intro s h
    simp only [List.foldl_cons] at h
    rcases ih _ h with h1 | ⟨e', he', h2⟩
    · split at h1
      · rename_i hb
        rw [Nat.testBit_or, Nat.testBit_or, Nat.testBit_two_pow, Bool.or_eq_true, Bool.or_eq_true, decide_eq_true_eq] at h1
        rcases h1 with (h1 | h1) | h1
        · exact .inl h1
        · exact .inr ⟨e, by simp, hb, .inl h1⟩
        · exact .inr ⟨e, by simp, hb, .inr h1⟩
      · exact .inl h1
    · exact .inr ⟨e', by simp [he'], h2⟩

theorem masks_anc : ∀ (rest pre : List Oper) (acc : Array Nat), ops.toList = pre ++ rest → acc.size = pre.length → (∀ k j, (acc.getD k 0).testBit j = true → Anc ops k j) →
    ∀ k j, ((masks rest acc).getD k 0).testBit j = true → Anc ops k j := by
  intro rest
  induction rest with
  | nil => intro pre acc _ _ h; exact h
  | cons o rest ih =>
    intro pre acc he hs h
    refine ih (pre ++ [o]) _ (by rw [he]; simp) (by simp [hs]) fun k j hb => ?_
    have hget : ops[acc.size]? = some o := by
      rw [← Array.getElem?_toList, he, hs]
      simp
    by_cases hk : k = acc.size
    · subst hk
      have hm : ((acc.push (maskOf acc o.after.toList)).getD acc.size 0) = maskOf acc o.after.toList := by simp
      rw [hm] at hb
      rcases maskOf_bit acc j _ _ hb with h0 | ⟨e, he', hbe, h1⟩
      · simp at h0
      · have hem : e ∈ o.after := by simpa using he'
        rcases h1 with h1 | h1
        · subst h1; exact .near hget hem hbe
        · exact .far hget hem hbe (h _ _ h1)
    · have hm : ((acc.push (maskOf acc o.after.toList)).getD k 0) = acc.getD k 0 := by
        simp only [Array.getD_eq_getD_getElem?, Array.getElem?_push, if_neg hk]
      rw [hm] at hb
      exact h k j hb

/-- THE CHECK, asked once of a region: whatever is not ordered by the edges may change places. -/
def okRegion (ops : Array Oper) (c : Nat → Nat) : Bool :=
  let m := masks ops.toList #[]
  Region.noSelect ops &&
  (List.range ops.size).all fun i =>
    ((ops[i]?).map fun o => o.after.toList.all fun e => !Region.binds .any e || decide (e.on < i)).getD false &&
    (List.range i).all fun j => (m.getD i 0).testBit j || pairOk ops c i j

theorem okRegion_spec {c : Nat → Nat} (h : okRegion ops c = true) : Region.noSelect ops = true ∧ (∀ i o, ops[i]? = some o → ∀ e ∈ o.after, Region.binds .any e = true → e.on < i) ∧
    ∀ i j, i < ops.size → j < i → Anc ops i j ∨ pairOk ops c i j = true := by
  simp only [okRegion, Bool.and_eq_true, List.all_eq_true, List.mem_range] at h
  obtain ⟨h1, h2⟩ := h
  refine ⟨h1, fun i o ho e he hb => ?_, fun i j hi hj => ?_⟩
  · have := (h2 i (Array.getElem?_eq_some_iff.1 ho).1).1
    rw [ho] at this
    simp only [Option.map_some, Option.getD_some, List.all_eq_true, Bool.or_eq_true, Bool.not_eq_true', decide_eq_true_eq] at this
    rcases this e (by simpa using he) with h | h
    · rw [hb] at h; cases h
    · exact h
  · have := (h2 i hi).2 j hj
    rw [Bool.or_eq_true] at this
    rcases this with h | h
    · exact .inl (masks_anc ops.toList [] #[] (by simp) (by simp) (fun k j h => by simp at h) i j h)
    · exact .inr h

theorem mix_sound {c : Nat → Nat} (hok : okRegion ops c = true) : ∀ (fuel : Nat) (R : List Nat) (listed : Array Bool) (a : Act) (w : World), R.length ≤ fuel → R.Pairwise (· < ·) → listed.size = ops.size →
    (∀ k, k ∈ R ↔ k < ops.size ∧ listed.getD k false = false) → Closed ops listed → S w → mix P ops S Q c R a w → wpAny P .any ops Q fuel listed a w := by
  obtain ⟨hsel, hdep, hpair⟩ := okRegion_spec hok
  have hgd : ∀ (listed : Array Bool) (k : Nat), listed.size = ops.size → k < ops.size → listed.getD k true = listed.getD k false := by
    intro l k hs hk
    have : k < l.size := by omega
    simp [this]
  intro fuel
  induction fuel with
  | zero =>
    intro R listed a w hf _ hs hR _ _ h
    have : R = [] := List.eq_nil_of_length_eq_zero (by omega)
    subst this
    refine ⟨?_, h⟩
    cases hr : Region.ready .any ops listed with
    | nil => rfl
    | cons x xs =>
      have hx : x ∈ Region.ready .any ops listed := by rw [hr]; simp
      obtain ⟨hx1, o, ho, _⟩ := mem_ready.1 hx
      have hlt := (Array.getElem?_eq_some_iff.1 ho).1
      rw [hgd _ _ hs hlt] at hx1
      have := (hR x).2 ⟨hlt, hx1⟩
      cases this
  | succ fuel ih =>
    intro R listed a w hf hsort hs hR hcl hS h
    refine ⟨fun hr => ?_, fun i hi => ?_⟩
    · cases R with
      | nil => exact h
      | cons r R =>
        exfalso
        obtain ⟨hlt, hun⟩ := (hR r).1 (by simp)
        have hro : ops[r]? = some ops[r] := Array.getElem?_eq_getElem hlt
        have hmem : r ∈ Region.ready .any ops listed := by
          rw [mem_ready]
          refine ⟨by rw [hgd _ _ hs hlt]; exact hun, ops[r], hro, fun e he hb => ?_⟩
          have hlt2 := hdep r _ hro e he hb
          cases hl : listed.getD e.on false with
          | true => rfl
          | false =>
            have hin := (hR e.on).2 ⟨by omega, hl⟩
            rcases List.mem_cons.1 hin with h1 | h1
            · omega
            · have := (List.pairwise_cons.1 hsort).1 _ h1; omega
        rw [hr] at hmem
        cases hmem
    · obtain ⟨hi1, o, ho, hall⟩ := mem_ready.1 hi
      have hlt := (Array.getElem?_eq_some_iff.1 ho).1
      rw [hgd _ _ hs hlt] at hi1
      have hiR : i ∈ R := (hR i).2 ⟨hlt, hi1⟩
      obtain ⟨o', ho', hst⟩ := pull c hsel R i a w hsort hiR (fun j hj hji => by
        rcases hpair i j hlt hji with h1 | h1
        · exfalso
          have h2 := h1.listed hcl (fun o' ho' e he hb => by
            rw [ho] at ho'
            cases ho'
            exact hall e he hb)
          rw [((hR j).1 hj).2] at h2
          cases h2
        · exact h1) h
      refine wpOp_mono (fun a' w' ⟨hS', hm⟩ => ?_) (stepMix_wpOp ho' hS hst)
      have hnd : R.Nodup := hsort.imp (fun h => Nat.ne_of_lt h)
      refine ih (R.erase i) _ a' w' ?_ (hsort.sublist List.erase_sublist) (by simp [hs]) (fun k => ?_) (fun j oj hj hl e he hb => ?_) hS' hm
      · rw [List.length_erase_of_mem hiR]; omega
      · rw [hnd.mem_erase_iff, hR k]
        by_cases hki : k = i
        · subst hki
          have : k < listed.size := by omega
          simp [this]
        · rw [getD_set_ne false (Ne.symm hki)]
          exact ⟨fun h => h.2, fun h => ⟨hki, h⟩⟩
      · by_cases hji : i = j
        · subst hji
          rw [ho] at hj
          cases hj
          exact getD_set_true (hall e he hb)
        · rw [getD_set_ne false hji] at hl
          exact getD_set_true (hcl j oj hj hl e he hb)

/-- THE RULE. A region that draws its order is walked in the order of the text. -/
theorem wp_region_mix {id : Nat} {a : Act} {w : World} (S : World → Prop) (c : Nat → Nat) (hm : P.follows .mixedOrders = true) (hok : okRegion ops c = true) (hS : S w.drew)
    (h : mix P ops S Q c (List.range ops.size) a w.drew) : (Code.region id ops true).wp P Q a w := by
  refine wp_region_any hm ?_
  refine mix_sound (S := S) hok ops.size (List.range ops.size) _ a _ (by simp) (List.pairwise_lt_range) (by simp) (fun k => ?_) (fun j oj hj hl => ?_) hS h
  · rw [List.mem_range]
    constructor
    · intro hk; exact ⟨hk, by simp [hk]⟩
    · exact fun h => h.1
  · exfalso
    have : j < ops.size := (Array.getElem?_eq_some_iff.1 hj).1
    simp [this] at hl

end
end Go.Mix
