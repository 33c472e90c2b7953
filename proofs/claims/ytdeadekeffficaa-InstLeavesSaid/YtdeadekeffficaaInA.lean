/- Instances: what they are, in plain Lean; and how they lie in memory. -/
import Derived.Test.YtdeadekeffficaaSr
import Derived.Test.YtdeadekeffficaaJoin
import Derived.Test.YtdeadekeffficaaElems
namespace Go.Proofs.Ytdeadekeffficaa
open Go.RowKit Go.Heap

/-! ### Plain -/

/-- A certificate. -/
structure Cp where
  view : Int
  inst : Int
  seq : Int
  rs : List Rq
  vs : Vs
deriving DecidableEq

/-- A slot of an instance. -/
structure Pl where
  sl : Sl
  told : Bool
  has : Bool
  ct : Cp
  done : Bool
  dw : Cp

structure In where
  f : Nat
  num : Int
  ahead : Int
  view : Int
  on : Bool
  l : List Pl

def noCp : Cp := ⟨0, 0, 0, [], []⟩
def emptyPl (f : Nat) : Pl := ⟨emptySl f, false, false, noCp, false, noCp⟩
def newI (f : Nat) (num ahead : Int) : In := ⟨f, num, ahead, 0, true, List.replicate 16 (emptyPl f)⟩

def In.upd (st : In) (k : Nat) (g : Pl → Pl) : In := { st with l := st.l.modify k g }
/-- The place of a number; none: there is none. -/
def idx (seq : Int) : Option Nat := if 1 ≤ seq ∧ seq ≤ 16 then some (seq.toNat - 1) else none
def plAt (st : In) (seq : Int) : Option Pl := (idx seq).bind fun k => st.l[k]?
def doneI (st : In) : Nat := (st.l.takeWhile (·.done)).length

def preB (st : In) (seq : Int) : Bool := match plAt st seq with | none => false | some p => st.on && decide (seq ≤ doneI st + st.ahead) && !p.sl.has
def slPre (rs : List Rq) (s : Sl) : Sl := if s.has then s else { s with has := true, batch := rs }
def preI (st : In) (seq : Int) (rs : List Rq) : In :=
  match idx seq with
  | none => st
  | some k => if preB st seq then st.upd k fun p => { p with sl := slPre rs p.sl } else st

def voteB (st : In) (kind seq node : Int) : Bool := match plAt st seq with | none => false | some p => st.on && canVote p.sl kind node
def voteI (st : In) (kind seq node sl : Int) (rs : List Rq) : In :=
  match idx seq with
  | none => st
  | some k => if st.on then st.upd k fun p => { p with sl := voteS p.sl kind node sl rs } else st

def prepI (st : In) (seq : Int) : Option Cp :=
  match plAt st seq with
  | none => none
  | some p => if st.on && !p.told then (preparedS st.f p.sl).map fun vs => ⟨st.view, st.num, seq, p.sl.batch, vs⟩ else none
def preparedI (st : In) (seq : Int) : In :=
  match idx seq, prepI st seq with
  | some k, some c => st.upd k fun p => { p with told := true, has := true, ct := c }
  | _, _ => st

def commI (st : In) (seq : Int) : Option Cp :=
  match plAt st seq with
  | none => none
  | some p => if p.done then none else (committedS st.f p.sl).map fun r => ⟨st.view, st.num, seq, r.1, r.2⟩
def commitsI (st : In) (seq : Int) : In :=
  match idx seq, commI st seq with
  | some k, some c => st.upd k fun p => { p with done := true, dw := c }
  | _, _ => st

def adoptB (st : In) (c : Cp) : Bool := match plAt st c.seq with | none => false | some p => !p.done && decide (c.inst = st.num)
def adoptI (st : In) (c : Cp) : In :=
  match idx c.seq with
  | none => st
  | some k => if adoptB st c then st.upd k fun p => { p with done := true, dw := c } else st

def committedI (st : In) (seq : Int) : Option Cp := match plAt st seq with | none => none | some p => if p.done then some p.dw else none
def leaveB (st : In) (v : Int) : Bool := decide (st.view < v) && decide (v ≤ 12)
def leaveI (st : In) (v : Int) : In := if leaveB st v then { st with view := v, on := false, l := st.l.map fun p => { p with sl := emptySl st.f, told := false } } else st
def instB (st : In) (n : Nat) : Bool := !st.on && decide (n ≤ 16)
def preAll : List (List Rq) → List Pl → List Pl
  | b :: bs, p :: ps => { p with sl := slPre b p.sl } :: preAll bs ps
  | _, ps => ps
def installI (st : In) (bs : List (List Rq)) : In := if instB st bs.length then { st with on := true, l := preAll bs st.l } else st
def certsI (st : In) : List Cp := (st.l.filter (·.has)).map (·.ct)
def chosenI (st : In) (seq : Int) : List Rq × Bool := match plAt st seq with | none => ([], false) | some p => (chosenS p.sl, p.sl.has)
/-- Behind the last place in which something is chosen. -/
def lastHas : List Pl → Nat
  | [] => 0
  | p :: l => if 0 < lastHas l then lastHas l + 1 else if p.sl.has then 1 else 0
def nextI (st : In) : Nat := lastHas st.l + 1
theorem lastHas_of : ∀ (l : List Pl) (k : Nat), k ≤ l.length → (∀ j (hj : j < l.length), k ≤ j → l[j].sl.has = false) → (∀ j (hj : j < l.length), k = j + 1 → l[j].sl.has = true) → lastHas l = k
  | [], k, h, _, _ => by simp at h; subst h; rfl
  | p :: l, k, h, h1, h2 => by
    match k with
    | 0 =>
      have e := lastHas_of l 0 (by simp) (fun j hj _ => h1 (j + 1) (by simpa using hj) (by omega)) (fun j _ e => by omega)
      have := h1 0 (by simp) (by omega)
      simp at this
      simp [lastHas, e, this]
    | k + 1 =>
      have e := lastHas_of l k (by simpa using h) (fun j hj hk => h1 (j + 1) (by simpa using hj) (by omega)) (fun j hj e => h2 (j + 1) (by simpa using hj) (by omega))
      by_cases hk : k = 0
      · subst hk
        have := h2 0 (by simp) rfl
        simp at this
        simp [lastHas, e, this]
      · simp [lastHas, e]; omega
def usedP (r : Rq) (p : Pl) : Bool := (p.sl.has && decide (r ∈ chosenS p.sl)) || (p.done && decide (r ∈ p.dw.rs))
def usedI (st : In) (r : Rq) : Bool := st.l.any (usedP r)

theorem idx_lt {seq : Int} {k : Nat} (h : idx seq = some k) : k < 16 ∧ seq = (k : Int) + 1 := by
  unfold idx at h
  split at h
  · simp only [Option.some.injEq] at h; omega
  · cases h
theorem idx_of {seq : Int} (h1 : 1 ≤ seq) (h2 : seq ≤ 16) : idx seq = some (seq.toNat - 1) := by unfold idx; rw [if_pos ⟨h1, h2⟩]
theorem idx_none {seq : Int} (h : idx seq = none) : seq < 1 ∨ 16 < seq := by
  unfold idx at h
  split at h
  · cases h
  · omega

/-! ### In memory -/

structure Ct where
  view : Int
  inst : Int
  seq : Int
  vb : Value
  vv : Value
  rs : List Rq
  vs : Vs
def Ct.cp (c : Ct) : Cp := ⟨c.view, c.inst, c.seq, c.rs, c.vs⟩
def ctCells (c : Ct) : List Value := [.int .i64 c.view, .int .i64 c.inst, .int .i64 c.seq, c.vb, c.vv]
abbrev ctAgg (c : Ct) : Value := .agg #[.int .i64 c.view, .int .i64 c.inst, .int .i64 c.seq, c.vb, c.vv]

structure Pm where
  lc : Loc
  sl : Sl
  told : Bool
  has : Bool
  ct : Ct
  done : Bool
  dw : Ct
def Pm.pl (p : Pm) : Pl := ⟨p.sl, p.told, p.has, p.ct.cp, p.done, p.dw.cp⟩
def pmCells (p : Pm) : List Value := [p.lc.ptr, .bool p.told, .bool p.has, .int .i64 p.ct.view, .int .i64 p.ct.inst, .int .i64 p.ct.seq, p.ct.vb, p.ct.vv, .bool p.done, .int .i64 p.dw.view, .int .i64 p.dw.inst, .int .i64 p.dw.seq, p.dw.vb, p.dw.vv]
theorem pmCells_len (p : Pm) : (pmCells p).length = 14 := rfl

structure Ins where
  i : Nat
  b : Nat
  cap : Nat
  f : Nat
  num : Int
  ahead : Int
  view : Int
  on : Bool
  l : List Pm
def Ins.st (x : Ins) : In := ⟨x.f, x.num, x.ahead, x.view, x.on, x.l.map Pm.pl⟩
abbrev Ins.ptr (x : Ins) : Value := .pointer (some ⟨x.i, 0, none⟩)
abbrev insO (f : Nat) (num ahead view : Int) (on : Bool) (v : Value) : Obj := .cells #[.int .i64 f, .int .i64 num, .int .i64 ahead, .int .i64 view, .bool on, v] 120 (0, 0)
abbrev Ins.o (x : Ins) : Obj := insO x.f x.num x.ahead x.view x.on (.slice (some ⟨x.b, 0, none⟩) 16 x.cap)

def VtsIn (w : World) (v : Value) (l : Vs) (D : List Nat) : Prop := ReadsIn w v 2 l.length (vsCells l) D
structure CtIn (w : World) (c : Ct) (D : List Nat) : Prop where
  b : BatIn w c.vb c.rs D
  bn : c.rs.length ≤ 100000
  v : VtsIn w c.vv c.vs D
  vn : c.vs.length ≤ 100000

theorem CtIn.dep {w w' : World} {c : Ct} {D : List Nat} (h : CtIn w c D) (hk : ∀ k ∈ D, w'.heap[k]? = w.heap[k]?) (hs : w.heap.size ≤ w'.heap.size) : CtIn w' c D := ⟨ReadsIn.dep h.b hk hs, h.bn, ReadsIn.dep h.v hk hs, h.vn⟩
theorem CtIn.mono {w : World} {c : Ct} {D D' : List Nat} (h : CtIn w c D) (hs : ∀ k ∈ D, k ∈ D') : CtIn w c D' := ⟨ReadsIn.mono h.b hs, h.bn, ReadsIn.mono h.v hs, h.vn⟩

structure InsOk (x : Ins) : Prop where
  n : x.l.length = 16
  f1 : 1 ≤ x.f
  f2 : x.f ≤ 4
  lf : ∀ p ∈ x.l, p.lc.f = x.f
  c1 : 16 ≤ x.cap
  a1 : 1 ≤ x.ahead
  a2 : x.ahead ≤ 16
  vw : 0 ≤ x.view ∧ x.view ≤ 12

/-- What an instance's certificates lead to; and its measures. -/
def certsR (x : Ins) : Res := imm (fun w D => InsOk x ∧ ∀ p ∈ x.l, CtIn w p.ct D ∧ CtIn w p.dw D) (fun h hk hs => ⟨h.1, fun p hp => ⟨(h.2 p hp).1.dep hk hs, (h.2 p hp).2.dep hk hs⟩⟩)
def pmR (p : Pm) : Res := slotR p.lc p.sl
def insHd (x : Ins) : List Res := [blk x.i x.o, segR x.b 122 (x.l.flatMap pmCells), certsR x]
def instR (x : Ins) : Res := joinR (insHd x ++ x.l.map pmR)

section
variable {B : Nat} {w0 W W' : World} {ss : List Res} {x : Ins}

/-- An instance that lies open. -/
abbrev OwnI (B : Nat) (w0 W : World) (x : Ins) (ss : List Res) : Prop := Own B w0 W (insHd x ++ (x.l.map pmR ++ ss))

theorem own_open (h : Own B w0 W (instR x :: ss)) : OwnI B w0 W x ss := by
  have := Own.open h
  rwa [List.append_assoc] at this
theorem own_shut (h : OwnI B w0 W x ss) : Own B w0 W (instR x :: ss) := by
  have h2 : Own B w0 W ((insHd x ++ x.l.map pmR) ++ ss) := by rwa [List.append_assoc]
  exact h2.shut

theorem oi_ok (h : OwnI B w0 W x ss) : InsOk x := by
  obtain ⟨D, ⟨⟨h1, _⟩, _⟩, _, _⟩ := (h.all (certsR x) (by simp [insHd])).1
  exact h1

theorem own_ok (h : Own B w0 W (instR x :: ss)) : InsOk x := oi_ok (own_open h)

theorem oi_blk (h : OwnI B w0 W x ss) : W.heap[x.i]? = some x.o := blk_out (h.all (blk x.i x.o) (by simp [insHd])).1
theorem oi_cells (h : OwnI B w0 W x ss) : W.cell? ⟨x.i, 0, none⟩ = some (.int .i64 x.f) ∧ W.cell? ⟨x.i, 1, none⟩ = some (.int .i64 x.num) ∧ W.cell? ⟨x.i, 2, none⟩ = some (.int .i64 x.ahead) ∧ W.cell? ⟨x.i, 3, none⟩ = some (.int .i64 x.view) ∧
    W.cell? ⟨x.i, 4, none⟩ = some (.bool x.on) ∧ W.cell? ⟨x.i, 5, none⟩ = some (.slice (some ⟨x.b, 0, none⟩) 16 x.cap) ∧ x.i < W.heap.size ∧ x.b < W.heap.size := by
  have hb := oi_blk h
  exact ⟨by rw [block_cell hb]; rfl, by rw [block_cell hb]; rfl, by rw [block_cell hb]; rfl, by rw [block_cell hb]; rfl, by rw [block_cell hb]; rfl, by rw [block_cell hb]; rfl, block_lt hb,
    (segR_at (h.all (segR x.b 122 (x.l.flatMap pmCells)) (by simp [insHd])).1).1⟩

theorem flat14 (l : List Pm) (k r : Nat) (hk : k < l.length) (hr : r < 14) : (l.flatMap pmCells)[k * 14 + r]? = (pmCells l[k])[r]? ∧ k * 14 + r < (l.flatMap pmCells).length := by
  have hl : (l.flatMap pmCells).length = l.length * 14 := flat_length (cells := pmCells) (sz := 14) (fun _ => rfl) l
  exact ⟨flat_get (cells := pmCells) (sz := 14) (fun _ => rfl) l k r l[k] (by simp) hr, by rw [hl]; omega⟩

theorem oi_at (h : OwnI B w0 W x ss) (k : Nat) (hk : k < x.l.length) (r : Nat) (hr : r < 14) : W.cell? ⟨x.b, k * 14 + r, none⟩ = (pmCells x.l[k])[r]? := by
  obtain ⟨-, h2, -⟩ := segR_at (h.all (segR x.b 122 (x.l.flatMap pmCells)) (by simp [insHd])).1
  obtain ⟨e1, e2⟩ := flat14 x.l k r hk hr
  rw [h2 _ e2, e1]

theorem oi_fz (h : OwnI B w0 W x ss) : (∀ o, W.frozen? ⟨x.b, o, none⟩ = false) ∧ ∀ o, W.frozen? ⟨x.i, o, none⟩ = false :=
  ⟨(segR_at (h.all (segR x.b 122 (x.l.flatMap pmCells)) (by simp [insHd])).1).2.2, fun o => block_frozen (oi_blk h) o⟩

/-- The k-th slot comes to the head. -/
theorem oi_pick (h : OwnI B w0 W x ss) (k : Nat) (hk : k < x.l.length) : Own B w0 W (pmR x.l[k] :: (insHd x ++ ((x.l.eraseIdx k).map pmR ++ ss))) := Own.pick h k hk

/-- The k-th slot is another one, or in another state. -/
theorem oi_unpick (k : Nat) (hk : k < x.l.length) (p : Pm) (h : Own B w0 W (pmR p :: (insHd x ++ ((x.l.eraseIdx k).map pmR ++ ss)))) (hc : pmCells p = pmCells x.l[k]) (hct : p.ct = x.l[k].ct ∧ p.dw = x.l[k].dw) (hf : p.lc.f = x.l[k].lc.f) :
    OwnI B w0 W { x with l := x.l.set k p } ss := by
  have h1 := Own.unpick (f := pmR) (x := p) k hk h
  have hcells : (x.l.set k p).flatMap pmCells = x.l.flatMap pmCells := by
    apply List.ext_getElem?
    intro j
    have hl : (x.l.flatMap pmCells).length = x.l.length * 14 := flat_length (cells := pmCells) (sz := 14) (fun _ => rfl) x.l
    have hl' : ((x.l.set k p).flatMap pmCells).length = x.l.length * 14 := by rw [flat_length (cells := pmCells) (sz := 14) (fun _ => rfl)]; simp
    by_cases hj : j < x.l.length * 14
    · have h0 : j / 14 < x.l.length := by omega
      have e1 := (flat14 x.l (j / 14) (j % 14) h0 (by omega)).1
      have e2 := (flat14 (x.l.set k p) (j / 14) (j % 14) (by simpa using h0) (by omega)).1
      rw [show j / 14 * 14 + j % 14 = j by omega] at e1 e2
      rw [e1, e2]
      by_cases hjk : k = j / 14
      · subst hjk
        rw [List.getElem_set_self, hc]
      · rw [List.getElem_set_ne hjk]
    · rw [List.getElem?_eq_none (by omega), List.getElem?_eq_none (by omega)]
  have hcr : Own B w0 W (insHd { x with l := x.l.set k p } ++ ((x.l.set k p).map pmR ++ ss)) := by
    have h2 : Own B w0 W (certsR x :: blk x.i x.o :: segR x.b 122 (x.l.flatMap pmCells) :: ((x.l.set k p).map pmR ++ ss)) := h1.perm (List.perm_middle (l₁ := [_, _]))
    have h3 := h2.alter (r' := certsR { x with l := x.l.set k p }) (by
      obtain ⟨D, ⟨⟨q1, q2⟩, q3⟩, q4, q5⟩ := h2.head
      refine ⟨D, ⟨⟨⟨by simpa using q1.n, q1.f1, q1.f2, fun p' hp' => ?_, q1.c1, q1.a1, q1.a2, q1.vw⟩, fun p' hp' => ?_⟩, q3⟩, q4, q5⟩
      · rcases List.mem_or_eq_of_mem_set hp' with hp' | rfl
        · exact q1.lf p' hp'
        · rw [hf]; exact q1.lf _ (by simp)
      · rcases List.mem_or_eq_of_mem_set hp' with hp' | rfl
        · exact q2 p' hp'
        · rw [hct.1, hct.2]; exact q2 _ (by simp)) (by simp [certsR, imm])
    have h4 : Own B w0 W ([blk x.i x.o, segR x.b 122 (x.l.flatMap pmCells), certsR { x with l := x.l.set k p }] ++ ((x.l.set k p).map pmR ++ ss)) := h3.perm (List.perm_middle (l₁ := [_, _])).symm
    unfold insHd
    rw [hcells]
    exact h4
  exact hcr

end
end Go.Proofs.Ytdeadekeffficaa
