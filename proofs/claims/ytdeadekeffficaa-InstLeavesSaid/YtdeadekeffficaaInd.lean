/- A region that draws its order, walked as a plain list in the order of the text: what only computes does so in every world alike. -/
import Derived.Test.YtdeadekeffficaaMix
import Derived.Laws.Sem
import Derived.Laws.Panics
namespace Go.Mix
open Go

/-- What s yields hangs on no world, and turns none. -/
def Ind (P : Program) {α : Type} (s : Sem α) : Prop := ∀ w1 n w', s.run P w1 = .ok n w' → w' = w1 ∧ ∀ w2, s.run P w2 = .ok n w2

section
variable {P : Program} {α β : Type}

theorem Ind.pure (x : α) : Ind P (Pure.pure x : Sem α) := by
  intro w1 n w' h
  simp [Pure.pure] at h ⊢
  obtain ⟨rfl, rfl⟩ := h
  exact ⟨rfl, rfl⟩

theorem Ind.halt (x : Halt) : Ind P (.halt x : Sem α) := by
  intro w1 n w' h
  simp [Sem.run] at h

theorem Ind.stuck (x : String) : Ind P (Go.stuck x : Sem α) := Ind.halt _
theorem Ind.unsupported (x : Unsupported) : Ind P (Go.unsupported x : Sem α) := Ind.halt _

theorem Ind.bind {s : Sem α} {f : α → Sem β} (h1 : Ind P s) (h2 : ∀ a, Ind P (f a)) : Ind P (s >>= f) := by
  intro w1 n w' h
  rw [Sem.run_bind] at h
  cases hr : s.run P w1 with
  | ok a w'' =>
    rw [hr] at h
    obtain ⟨rfl, h3⟩ := h1 _ _ _ hr
    obtain ⟨rfl, h4⟩ := h2 a _ _ _ h
    refine ⟨rfl, fun w2 => ?_⟩
    rw [Sem.run_bind, h3 w2]
    exact h4 w2
  | halt x w'' => rw [hr] at h; cases h

theorem Ind.program : Ind P Go.program := by
  intro w1 n w' h
  simp [Go.program, Sem.run] at h ⊢
  obtain ⟨rfl, rfl⟩ := h
  exact ⟨rfl, rfl⟩

theorem Ind.never {s : Sem α} (h : ∀ w, ∃ x w', s.run P w = .halt x w') : Ind P s := by
  intro w1 n w' hr
  obtain ⟨x, w2, h2⟩ := h w1
  rw [h2] at hr; cases hr

theorem Ind.nilDeref : Ind P (Go.runtimePanic .nilDeref : Sem α) := by
  unfold Go.runtimePanic
  exact Ind.bind Ind.program fun p => Ind.halt _

theorem Ind.panicError (m : String) : Ind P (Go.runtimePanic (.error m) : Sem α) := by
  unfold Go.runtimePanic
  exact Ind.bind Ind.program fun p => Ind.halt _

theorem Ind.boundsPanic (k : IntKind) (x y : Int) (c : BoundsCode) : Ind P (Go.boundsPanic k x y c : Sem α) :=
  Ind.never fun w => by obtain ⟨s, w', h⟩ := run_boundsPanic (α := α) (P := P) (w := w) k x y c; exact ⟨_, _, h⟩

theorem Ind.typeInfo (t : TypeId) : Ind P (Go.typeInfo t) := by
  unfold Go.typeInfo
  refine Ind.bind Ind.program fun p => ?_
  split <;> first | exact Ind.pure _ | exact Ind.halt _

theorem Ind.underlying (t : TypeId) : Ind P (Go.underlying t) := by
  unfold Go.underlying
  refine Ind.bind Ind.program fun p => ?_
  split <;> first | exact Ind.pure _ | exact Ind.halt _

theorem Ind.sizeOf (t : TypeId) : Ind P (Go.sizeOf t) := Ind.bind (Ind.typeInfo t) fun _ => Ind.pure _

theorem Ind.isAgg (t : TypeId) : Ind P (Go.isAgg t) := by
  refine Ind.bind (Ind.underlying t) fun d => ?_
  split <;> exact Ind.pure _

theorem Ind.part (t : TypeId) (cs : Array Value) (o : Nat) : Ind P (Go.part t cs o) := by
  refine Ind.bind (Ind.isAgg t) fun b => ?_
  split
  · exact Ind.bind (Ind.sizeOf t) fun _ => Ind.pure _
  · split <;> first | exact Ind.pure _ | exact Ind.halt _

theorem Ind.asIntOf (v : Value) : Ind P (Go.asIntOf v) := by
  unfold Go.asIntOf; split <;> first | exact Ind.pure _ | exact Ind.halt _
theorem Ind.asBool (v : Value) : Ind P (Go.asBool v) := by
  unfold Go.asBool; split <;> first | exact Ind.pure _ | exact Ind.halt _
theorem Ind.asAgg (v : Value) : Ind P (Go.asAgg v) := by
  unfold Go.asAgg; split <;> first | exact Ind.pure _ | exact Ind.halt _
theorem Ind.asAddr (v : Value) : Ind P (Go.asAddr v) := by
  unfold Go.asAddr; split <;> first | exact Ind.pure _ | exact Ind.nilDeref | exact Ind.halt _
theorem Ind.sureAddr (v : Value) : Ind P (Instr.sureAddr v) := by
  unfold Instr.sureAddr; split <;> first | exact Ind.pure _ | exact Ind.halt _

theorem Ind.field (t : TypeId) (x : Value) (f : Nat) : Ind P (Instr.field t x f) := by
  refine Ind.bind (Ind.underlying t) fun d => ?_
  split
  · split
    · exact Ind.bind (Ind.asAgg _) fun _ => Ind.part _ _ _
    · exact Ind.halt _
  · exact Ind.halt _

theorem Ind.index (t : TypeId) (x i : Value) : Ind P (Instr.index t x i) := by
  refine Ind.bind (Ind.asIntOf i) fun ⟨k, n⟩ => ?_
  refine Ind.bind (Ind.underlying t) fun d => ?_
  split
  · split
    · exact Ind.bind (Ind.sizeOf _) fun _ => Ind.part _ _ _
    · exact Ind.boundsPanic _ _ _ _
  · split <;> first | exact Ind.pure _ | exact Ind.boundsPanic _ _ _ _
  · exact Ind.halt _

theorem Ind.indexAt (t : TypeId) (x i : Value) : Ind P (Instr.indexAt t x i) := by
  unfold Instr.indexAt
  repeat' (first | exact Ind.pure _ | exact Ind.halt _ | exact Ind.boundsPanic _ _ _ _ | exact Ind.asIntOf _ | exact Ind.underlying _ | exact Ind.sizeOf _ | exact Ind.sureAddr _ | refine Ind.bind ?_ fun _ => ?_ | split | dsimp only)

theorem Ind.sliceBound (x : Value) (y : Nat) (c : BoundsCode) : Ind P (Instr.sliceBound x y c) := by
  refine Ind.bind (Ind.asIntOf x) fun ⟨k, n⟩ => ?_
  dsimp only
  split
  · exact Ind.pure _
  · exact Ind.boundsPanic _ _ _ _

theorem Ind.sliceBounds (b : Bool) (n c : Nat) (l h m : Option Value) : Ind P (Instr.sliceBounds b n c l h m) := by
  unfold Instr.sliceBounds
  cases m <;> cases h <;> cases l <;> dsimp only
  all_goals (repeat' (first | exact Ind.pure _ | exact Ind.halt _ | exact Ind.sliceBound _ _ _ | exact Ind.underlying _ | exact Ind.sizeOf _ | exact Ind.asAddr _ | exact Ind.sureAddr _ | refine Ind.bind ?_ fun _ => ?_ | split | dsimp only))

theorem Ind.slice (t : TypeId) (x : Value) (l h m : Option Value) : Ind P (Instr.slice t x l h m) := by
  unfold Instr.slice
  repeat' (first | exact Ind.pure _ | exact Ind.halt _ | exact Ind.sliceBound _ _ _ | exact Ind.sliceBounds _ _ _ _ _ _ | exact Ind.underlying _ | exact Ind.sizeOf _ | exact Ind.asAddr _ | exact Ind.sureAddr _ | refine Ind.bind ?_ fun _ => ?_ | split | dsimp only)

theorem Ind.sliceAt (t : TypeId) (x : Value) (l h m : Option Value) : Ind P (Instr.sliceAt t x l h m) := by
  unfold Instr.sliceAt
  repeat' (first | exact Ind.pure _ | exact Ind.halt _ | exact Ind.sliceBound _ _ _ | exact Ind.sliceBounds _ _ _ _ _ _ | exact Ind.underlying _ | exact Ind.sizeOf _ | exact Ind.asAddr _ | exact Ind.sureAddr _ | exact Ind.slice _ _ _ _ _ | refine Ind.bind ?_ fun _ => ?_ | split | dsimp only)

theorem Ind.extract (t : Value) (i : Nat) : Ind P (Instr.extract t i) := by
  unfold Instr.extract
  split
  · split <;> first | exact Ind.pure _ | exact Ind.halt _
  · exact Ind.halt _

theorem Ind.makeInterface (t : TypeId) (x : Value) : Ind P (Instr.makeInterface t x) := by
  refine Ind.bind (Ind.underlying t) fun d => ?_
  split <;> first | exact Ind.pure _ | exact Ind.halt _

/-- The field takes room. -/
def fieldBig (P : Program) (s : TypeId) (f : Nat) : Bool :=
  match P.underlying s with
  | some (.struct fs) => match fs[f]? with
    | some fd => match P.info? fd.type with
      | some i => i.size != 0
      | none => false
    | none => false
  | _ => false

theorem Ind.fieldAt (s : TypeId) (x : Value) (f : Nat) (hb : fieldBig P s f = true) : Ind P (Instr.fieldAt s x f) := by
  intro w1 n w' h
  unfold fieldBig at hb
  cases hu : P.underlying s with
  | none => rw [hu] at hb; cases hb
  | some d =>
    rw [hu] at hb
    cases d with
    | struct fs =>
      dsimp only at hb
      cases hf : fs[f]? with
      | none => rw [hf] at hb; cases hb
      | some fd =>
        rw [hf] at hb
        dsimp only at hb
        cases hi : P.info? fd.type with
        | none => rw [hi] at hb; cases hb
        | some i =>
          rw [hi] at hb
          have hne : i.size ≠ 0 := by simpa using hb
          have key : ∀ w, (Instr.fieldAt s x f).run P w = ((Instr.sureAddr x).run P w).andThen fun a w => .ok (.pointer (some (a.add fd.offset))) w := by
            intro w
            unfold Instr.fieldAt
            rw [Sem.run_bind]
            have e1 : (Go.underlying s).run P w = .ok (.struct fs) w := by simp [Go.underlying, Go.program, Sem.run_bind, Sem.run, hu, Pure.pure]
            rw [e1]
            simp only [Result.andThen_ok, hf]
            rw [Sem.run_bind]
            congr 1
            funext a w'
            simp [Pure.pure, Sem.run, fieldPlace, Go.sizeOf, Go.typeInfo, Go.program, Sem.run_bind, hi, hne]
          rw [key] at h
          cases hr : (Instr.sureAddr x).run P w1 with
          | ok a w'' =>
            rw [hr] at h
            simp only [Result.andThen_ok, Result.ok.injEq] at h
            obtain ⟨rfl, rfl⟩ := h
            obtain ⟨rfl, h3⟩ := Ind.sureAddr x _ _ _ hr
            exact ⟨rfl, fun w2 => by rw [key, h3 w2]; rfl⟩
          | halt y w'' => rw [hr] at h; cases h
    | _ => cases hb

def pairOf : Value → Value → Bool
  | .int _ _, .int _ _ => true
  | .string _, .string _ => true
  | .bool _, .bool _ => true
  | _, _ => false

theorem Ind.ofInt (op : BinOp) (t : TypeId) (k k' : IntKind) (a b : Int) : Ind P (binOp op t (.int k a) (.int k' b)) := by
  cases op <;> simp only [binOp] <;> (try split) <;>
    first
    | exact Ind.halt _
    | (unfold Op.shift; split <;> first | exact Ind.panicError _ | exact Ind.pure _)
    | (unfold Op.intArith; exact Ind.pure _)
    | (unfold Op.intDiv; split <;> first | exact Ind.panicError _ | exact Ind.pure _)
    | (unfold Op.intBits; exact Ind.pure _)
    | (unfold Op.intCmp; exact Ind.pure _)

theorem Ind.ofString (op : BinOp) (t : TypeId) (a b : ByteArray) : Ind P (binOp op t (.string a) (.string b)) := by
  cases op <;> simp only [binOp] <;> unfold Op.stringOp <;> dsimp only <;> (try split) <;> first | exact Ind.pure _ | exact Ind.halt _

theorem Ind.ofBool (op : BinOp) (t : TypeId) (a b : Bool) : Ind P (binOp op t (.bool a) (.bool b)) := by
  have he : Ind P (Op.equal t (.bool a) (.bool b)) := by
    unfold Op.equal Op.maxDepth
    unfold Op.equalIn
    refine Ind.bind (Ind.underlying t) fun d => ?_
    cases d <;> first | exact Ind.pure _ | exact Ind.halt _
  cases op <;> simp only [binOp] <;> first | exact Ind.halt _ | exact Ind.bind he fun _ => Ind.pure _

theorem Ind.eqGuard (op : BinOp) (t : TypeId) (x y : Operand) (a b : Value) (h : pairOf a b = true) : Ind P (eqGuard op t x y a b) := by
  unfold Go.eqGuard
  cases a <;> cases b <;> simp only [pairOf] at h <;> first | cases h | skip
  all_goals
    dsimp only
    split <;> exact Ind.pure _

theorem Ind.binOp (op : BinOp) (t : TypeId) (a b : Value) (h : pairOf a b = true) : Ind P (binOp op t a b) := by
  cases a <;> cases b <;> simp only [pairOf] at h <;> first | exact Ind.ofInt _ _ _ _ _ _ | exact Ind.ofString _ _ _ _ | exact Ind.ofBool _ _ _ _ | cases h

def plainV : Value → Bool
  | .int _ _ | .bool _ => true
  | _ => false

theorem Ind.unary (op : UnOp) (a : Value) (h : plainV a = true) : Ind P (Op.unary op a) := by
  cases a <;> simp only [plainV] at h <;> first | cases h | skip
  all_goals
    cases op <;> simp only [Op.unary] <;>
      first
      | exact Ind.pure _
      | exact Ind.halt _
      | (unfold Op.intArith; exact Ind.pure _)
      | (unfold Op.intBits; exact Ind.pure _)

end
end Go.Mix
