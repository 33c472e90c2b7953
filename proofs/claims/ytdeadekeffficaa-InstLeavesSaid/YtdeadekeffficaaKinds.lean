/- The kinds of operations that only compute, or only read. -/
import Derived.Test.YtdeadekeffficaaInd
import Derived.Tactics
namespace Go.Mix
open Go

/-! ### The kinds of operations -/

def intV : Value → Bool
  | .int _ _ => true
  | _ => false
def lenV : Value → Bool
  | .slice _ _ _ | .string _ => true
  | _ => false
def noFunc : Value → Bool
  | .func _ _ _ => false
  | _ => true

/-- In frame a, o only computes. -/
def pureOp (P : Program) (a : Act) (o : Oper) : Bool :=
  match o.op with
  | .move _ | .assign _ | .extract _ _ | .pick _ _ _ | .field _ _ _ | .indexAddr _ _ _ | .index _ _ _ | .slice _ _ _ _ _ | .makeInterface _ _ => true
  | .nilCheck x => noFunc (a.eval x)
  | .binOp _ _ x y _ => pairOf (a.eval x) (a.eval y)
  | .unOp _ _ x => plainV (a.eval x)
  | .fieldAddr s _ f => fieldBig P s f
  | .call { callee := .builtin .len, args, .. } => match args.toList with | [x] => lenV (a.eval x) | _ => false
  | .call { callee := .builtin .min, args, .. } => args.toList.all fun x => intV (a.eval x)
  | .call { callee := .builtin .max, args, .. } => args.toList.all fun x => intV (a.eval x)
  | _ => false

/-- 0: it only computes (pureOp says whether, in a frame); 1: a load; 2: all else. -/
def clsOf (o : Oper) : Nat :=
  match o.op with
  | .move _ | .assign _ | .extract _ _ | .pick _ _ _ | .field _ _ _ | .indexAddr _ _ _ | .index _ _ _ | .slice _ _ _ _ _ | .makeInterface _ _ | .nilCheck _ | .binOp _ _ _ _ _ | .unOp _ _ _ | .fieldAddr _ _ _
  | .call { callee := .builtin .len, .. } | .call { callee := .builtin .min, .. } | .call { callee := .builtin .max, .. } => 0
  | .load _ _ => 1
  | _ => 2

section
variable {P : Program}

/-- s hands back a value, the same in every world, and turns none. -/
def IndV (P : Program) (s : Sem Next) : Prop := ∀ w1 n w', s.run P w1 = .ok n w' → w' = w1 ∧ ∃ v, n = .value v ∧ ∀ w2, s.run P w2 = .ok (.value v) w2

theorem IndV.val {s : Sem Value} (h : Ind P s) : IndV P (do pure (.value (← s))) := by
  intro w1 n w' hr
  rw [Sem.run_bind] at hr
  cases hs : s.run P w1 with
  | ok v w'' =>
    rw [hs] at hr
    obtain ⟨rfl, h2⟩ := h _ _ _ hs
    simp [Pure.pure] at hr
    obtain ⟨rfl, rfl⟩ := hr
    exact ⟨rfl, v, rfl, fun w2 => by rw [Sem.run_bind, h2 w2]; rfl⟩
  | halt x w'' => rw [hs] at hr; cases hr

theorem IndV.pure (v : Value) : IndV P (Pure.pure (.value v)) := by
  intro w1 n w' hr
  simp [Pure.pure] at hr
  obtain ⟨rfl, rfl⟩ := hr
  exact ⟨rfl, v, rfl, fun w2 => rfl⟩

theorem IndV.none {s : Sem Next} (h : ∀ w, ∃ x w', s.run P w = .halt x w') : IndV P s := by
  intro w1 n w' hr
  obtain ⟨x, w2, h2⟩ := h w1
  rw [h2] at hr; cases hr

theorem fold_pure (f : Value → Value → Sem Value) (h : ∀ x y, intV x = true → intV y = true → ∃ z, intV z = true ∧ f x y = Pure.pure z) : ∀ (l : List Value) (x : Value), intV x = true → l.all intV = true → ∃ z, l.foldlM f x = Pure.pure z := by
  intro l
  induction l with
  | nil => intro x _ _; exact ⟨x, rfl⟩
  | cons y l ih =>
    intro x hx hl
    simp only [List.all_cons, Bool.and_eq_true] at hl
    obtain ⟨z, hz, he⟩ := h x y hx hl.1
    obtain ⟨z', hz'⟩ := ih z hz hl.2
    refine ⟨z', ?_⟩
    rw [List.foldlM_cons, he, ← hz']
    rfl

theorem min2_int (x y : Value) (hx : intV x = true) (hy : intV y = true) : ∃ z, intV z = true ∧ Builtin.min2 x y = Pure.pure z := by
  cases x <;> simp only [intV] at hx <;> first | cases hx | skip
  cases y <;> simp only [intV] at hy <;> first | cases hy | skip
  exact ⟨_, by rfl, rfl⟩

theorem max2_int (x y : Value) (hx : intV x = true) (hy : intV y = true) : ∃ z, intV z = true ∧ Builtin.max2 x y = Pure.pure z := by
  cases x <;> simp only [intV] at hx <;> first | cases hx | skip
  cases y <;> simp only [intV] at hy <;> first | cases hy | skip
  exact ⟨_, by rfl, rfl⟩

theorem len_ind (ats : Array TypeId) (type : TypeId) (v : Value) (h : lenV v = true) : Ind P (Builtin.len_ ats type #[v]) := by
  unfold Builtin.len_
  cases hat : ats[0]? with
  | none => exact Ind.halt _
  | some t =>
    show Ind P (Go.underlying t >>= _)
    refine Ind.bind (Ind.underlying t) fun d => ?_
    cases v <;> simp only [lenV] at h <;> first | cases h | skip
    all_goals
      cases d <;> first | exact Ind.pure _ | exact Ind.halt _ | (refine Ind.bind (Ind.underlying _) fun e => ?_; cases e <;> first | exact Ind.pure _ | exact Ind.halt _)

theorem pure_ind {a : Act} {o : Oper} (h : pureOp P a o = true) : IndV P (execOp a.eval o) := by
  obtain ⟨dst, op, type, pos, after, guard⟩ := o
  unfold pureOp at h
  unfold execOp
  dsimp only at h ⊢
  split at h
  · exact IndV.pure _
  · exact IndV.pure _
  · exact IndV.val (Ind.extract _ _)
  · rename_i c x y
    intro w1 n w' hr
    dsimp only at hr ⊢
    cases hb : a.eval c <;> rw [hb] at hr <;> simp [Go.asBool, Go.stuck, Sem.run, Sem.run_bind, Pure.pure] at hr
    obtain ⟨rfl, rfl⟩ := hr
    exact ⟨rfl, _, rfl, fun w2 => by simp [Go.asBool, Sem.run, Pure.pure]⟩
  · exact IndV.val (Ind.field _ _ _)
  · exact IndV.val (Ind.indexAt _ _ _)
  · exact IndV.val (Ind.index _ _ _)
  · exact IndV.val (Ind.sliceAt _ _ _ _ _)
  · exact IndV.val (Ind.makeInterface _ _)
  · rename_i x
    dsimp only
    cases hx : a.eval x with
    | func fn fi ca => rw [hx] at h; cases h
    | pointer p =>
      cases p with
      | none => exact IndV.none fun w => ⟨_, _, by simp [runtimePanic, goPanic, Go.program, Sem.run, Sem.run_bind]; exact ⟨rfl, rfl⟩⟩
      | some p => exact IndV.pure _
    | nilIface => exact IndV.none fun w => ⟨_, _, by simp [runtimePanic, goPanic, Go.program, Sem.run, Sem.run_bind]; exact ⟨rfl, rfl⟩⟩
    | nilFunc => exact IndV.none fun w => ⟨_, _, by simp [runtimePanic, goPanic, Go.program, Sem.run, Sem.run_bind]; exact ⟨rfl, rfl⟩⟩
    | _ => exact IndV.pure _
  · exact IndV.val (Ind.bind (Ind.eqGuard _ _ _ _ _ _ h) fun _ => Ind.binOp _ _ _ _ h)
  · exact IndV.val (Ind.unary _ _ h)
  · exact IndV.val (Ind.fieldAt _ _ _ h)
  · rename_i args ats
    intro w1 n w' hr
    split at h
    · rename_i x hx
      have hargs : args = #[x] := by cases args; simp at hx; subst hx; rfl
      subst hargs
      have : IndV P (do pure (.value (← Builtin.len_ ats type ((#[x] : Array Operand).map a.eval)))) := by
        refine IndV.val ?_
        rw [show (#[x] : Array Operand).map a.eval = #[a.eval x] by simp]
        exact len_ind _ _ _ h
      exact this w1 n w' hr
    · cases h
  · rename_i args ats
    intro w1 n w' hr
    have : IndV P (do pure (.value (← Builtin.min_ ats type (args.map a.eval)))) := by
      refine IndV.val ?_
      unfold Builtin.min_
      rw [Array.toList_map]
      cases hl : args.toList with
      | nil => exact Ind.halt _
      | cons x l =>
        rw [hl, List.all_cons, Bool.and_eq_true] at h
        obtain ⟨z, hz⟩ := fold_pure _ min2_int (l.map a.eval) (a.eval x) h.1 (by rw [List.all_map]; exact h.2)
        simp only [List.map_cons]
        rw [hz]
        exact Ind.pure _
    exact this w1 n w' hr
  · rename_i args ats
    intro w1 n w' hr
    have : IndV P (do pure (.value (← Builtin.max_ ats type (args.map a.eval)))) := by
      refine IndV.val ?_
      unfold Builtin.max_
      rw [Array.toList_map]
      cases hl : args.toList with
      | nil => exact Ind.halt _
      | cons x l =>
        rw [hl, List.all_cons, Bool.and_eq_true] at h
        obtain ⟨z, hz⟩ := fold_pure _ max2_int (l.map a.eval) (a.eval x) h.1 (by rw [List.all_map]; exact h.2)
        simp only [List.map_cons]
        rw [hz]
        exact Ind.pure _
    exact this w1 n w' hr
  · cases h

/-! ### A load turns no world -/

def Rd (P : Program) {α : Type} (s : Sem α) : Prop := ∀ w1 n w', s.run P w1 = .ok n w' → w' = w1

theorem Ind.rd {α : Type} {s : Sem α} (h : Ind P s) : Rd P s := fun w1 n w' hr => (h w1 n w' hr).1

theorem Rd.bind {α β : Type} {s : Sem α} {f : α → Sem β} (h1 : Rd P s) (h2 : ∀ a, Rd P (f a)) : Rd P (s >>= f) := by
  intro w1 n w' h
  rw [Sem.run_bind] at h
  cases hr : s.run P w1 with
  | ok a w'' =>
    rw [hr] at h
    have := h1 _ _ _ hr
    subst this
    exact h2 a _ _ _ h
  | halt x w'' => rw [hr] at h; cases h

theorem Rd.load (a : Addr) : Rd P (Go.load a) := by
  intro w1 n w' h
  unfold Go.load at h
  simp only [Sem.run] at h
  split at h
  · simp at h; exact h.2.symm
  · split at h
    · simp at h; exact h.2.symm
    · cases h

theorem Rd.cells (a : Addr) : ∀ (n i : Nat) (acc : Array Value), Rd P (loadCellsFrom a i n acc) := by
  intro n
  induction n with
  | zero => intro i acc; exact (Ind.pure _).rd
  | succ n ih => intro i acc; exact Rd.bind (Rd.load _) fun v => ih _ _

theorem Rd.loadVar (t : TypeId) (a : Addr) : Rd P (loadVar t a) := by
  refine Rd.bind (Ind.isAgg t).rd fun b => ?_
  split
  · exact Rd.bind (Ind.sizeOf t).rd fun _ => Rd.bind (Rd.cells _ _ _ _) fun _ => (Ind.pure _).rd
  · exact Rd.load a

theorem Rd.loadAt (t : TypeId) (x : Value) : Rd P (Instr.loadAt t x) := Rd.bind (Ind.sureAddr x).rd fun _ => Rd.loadVar _ _

theorem load_value {a : Act} {o : Oper} {t : TypeId} {x : Operand} (ho : o.op = .load t x) {w w' : World} {n : Next} (h : (execOp a.eval o).run P w = .ok n w') : w' = w ∧ ∃ v, n = .value v := by
  obtain ⟨dst, op, type, pos, after, guard⟩ := o
  subst ho
  unfold execOp at h
  dsimp only at h
  rw [Sem.run_bind] at h
  cases hr : (Instr.loadAt t (a.eval x)).run P w with
  | ok v w'' =>
    rw [hr] at h
    have := Rd.loadAt t (a.eval x) _ _ _ hr
    subst this
    simp [Pure.pure] at h
    obtain ⟨rfl, rfl⟩ := h
    exact ⟨rfl, v, rfl⟩
  | halt y w'' => rw [hr] at h; cases h

end
end Go.Mix
