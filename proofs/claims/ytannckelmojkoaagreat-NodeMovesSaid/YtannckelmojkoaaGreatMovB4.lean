/- Parts of the proof, one behind the other. -/
import Derived.Test.YtannckelmojkoaaGreatMovB3
import Derived.Deep.RegionHeld3
import Derived.Deep.DeepCutAuto
import Derived.Deep.CutBlock
import Derived.Outline
import Derived.Deep.MidRow

/- Instances: what they are, in plain Lean; and how they lie in memory. -/
namespace Go.Proofs.YtannckelmojkoaaGreat
open Go.RowKit Go.Heap

/-! ### Plain -/

/-- A certificate. -/
structure Cp where
  view : Int
  inst : Int
  seq : Int
  rs : List Rq
  vs : Vs
deriving DecidableEq

/-- A slot of an instance. -/
structure Pl where
  sl : Sl
  told : Bool
  has : Bool
  ct : Cp
  done : Bool
  dw : Cp

structure In where
  f : Nat
  num : Int
  ahead : Int
  view : Int
  on : Bool
  l : List Pl

def noCp : Cp := ⟨0, 0, 0, [], []⟩
def emptyPl (f : Nat) : Pl := ⟨emptySl f, false, false, noCp, false, noCp⟩
def newI (f : Nat) (num ahead : Int) : In := ⟨f, num, ahead, 0, true, List.replicate 16 (emptyPl f)⟩

def In.upd (st : In) (k : Nat) (g : Pl → Pl) : In := { st with l := st.l.modify k g }
/-- The place of a number; none: there is none. -/
def idx (seq : Int) : Option Nat := if 1 ≤ seq ∧ seq ≤ 16 then some (seq.toNat - 1) else none
def plAt (st : In) (seq : Int) : Option Pl := (idx seq).bind fun k => st.l[k]?
def doneI (st : In) : Nat := (st.l.takeWhile (·.done)).length

def slPre (rs : List Rq) (s : Sl) : Sl := if s.has then s else { s with has := true, batch := rs }
def voteI (st : In) (kind seq node sl : Int) (rs : List Rq) : In :=
  match idx seq with
  | none => st
  | some k => if st.on then st.upd k fun p => { p with sl := voteS p.sl kind node sl rs } else st

def prepI (st : In) (seq : Int) : Option Cp :=
  match plAt st seq with
  | none => none
  | some p => if st.on && !p.told then (preparedS st.f p.sl).map fun vs => ⟨st.view, st.num, seq, p.sl.batch, vs⟩ else none
def preparedI (st : In) (seq : Int) : In :=
  match idx seq, prepI st seq with
  | some k, some c => st.upd k fun p => { p with told := true, has := true, ct := c }
  | _, _ => st

def commI (st : In) (seq : Int) : Option Cp :=
  match plAt st seq with
  | none => none
  | some p => if p.done then none else (committedS st.f p.sl).map fun r => ⟨st.view, st.num, seq, r.1, r.2⟩
def commitsI (st : In) (seq : Int) : In :=
  match idx seq, commI st seq with
  | some k, some c => st.upd k fun p => { p with done := true, dw := c }
  | _, _ => st

def committedI (st : In) (seq : Int) : Option Cp := match plAt st seq with | none => none | some p => if p.done then some p.dw else none
def leaveB (st : In) (v : Int) : Bool := decide (st.view < v) && decide (v ≤ 12)
def leaveI (st : In) (v : Int) : In := if leaveB st v then { st with view := v, on := false, l := st.l.map fun p => { p with sl := emptySl st.f, told := false } } else st
def instB (st : In) (n : Nat) : Bool := !st.on && decide (n ≤ 16)
def preAll : List (List Rq) → List Pl → List Pl
  | b :: bs, p :: ps => { p with sl := slPre b p.sl } :: preAll bs ps
  | _, ps => ps
def installI (st : In) (bs : List (List Rq)) : In := if instB st bs.length then { st with on := true, l := preAll bs st.l } else st
def certsI (st : In) : List Cp := (st.l.filter (·.has)).map (·.ct)
def chosenI (st : In) (seq : Int) : List Rq × Bool := match plAt st seq with | none => ([], false) | some p => (chosenS p.sl, p.sl.has)
/-- Behind the last place in which something is chosen. -/
def lastHas : List Pl → Nat
  | [] => 0
  | p :: l => if 0 < lastHas l then lastHas l + 1 else if p.sl.has then 1 else 0
def nextI (st : In) : Nat := lastHas st.l + 1
theorem lastHas_of : ∀ (l : List Pl) (k : Nat), k ≤ l.length → (∀ j (hj : j < l.length), k ≤ j → l[j].sl.has = false) → (∀ j (hj : j < l.length), k = j + 1 → l[j].sl.has = true) → lastHas l = k
  | [], k, h, _, _ => by simp at h; subst h; rfl
  | p :: l, k, h, h1, h2 => by
    match k with
    | 0 =>
      have e := lastHas_of l 0 (by simp) (fun j hj _ => h1 (j + 1) (by simpa using hj) (by omega)) (fun j _ e => by omega)
      have := h1 0 (by simp) (by omega)
      simp at this
      simp [lastHas, e, this]
    | k + 1 =>
      have e := lastHas_of l k (by simpa using h) (fun j hj hk => h1 (j + 1) (by simpa using hj) (by omega)) (fun j hj e => h2 (j + 1) (by simpa using hj) (by omega))
      by_cases hk : k = 0
      · subst hk
        have := h2 0 (by simp) rfl
        simp at this
        simp [lastHas, e, this]
      · simp [lastHas, e]; omega
theorem idx_lt {seq : Int} {k : Nat} (h : idx seq = some k) : k < 16 ∧ seq = (k : Int) + 1 := by
  unfold idx at h
  split at h
  · simp only [Option.some.injEq] at h; omega
  · cases h
theorem idx_none {seq : Int} (h : idx seq = none) : seq < 1 ∨ 16 < seq := by
  unfold idx at h
  split at h
  · cases h
  · omega

/-! ### In memory -/

structure Ct where
  view : Int
  inst : Int
  seq : Int
  vb : Value
  vv : Value
  rs : List Rq
  vs : Vs
def Ct.cp (c : Ct) : Cp := ⟨c.view, c.inst, c.seq, c.rs, c.vs⟩
def ctCells (c : Ct) : List Value := [.int .i64 c.view, .int .i64 c.inst, .int .i64 c.seq, c.vb, c.vv]
abbrev ctAgg (c : Ct) : Value := .agg #[.int .i64 c.view, .int .i64 c.inst, .int .i64 c.seq, c.vb, c.vv]

structure Pm where
  lc : Loc
  sl : Sl
  told : Bool
  has : Bool
  ct : Ct
  done : Bool
  dw : Ct
def Pm.pl (p : Pm) : Pl := ⟨p.sl, p.told, p.has, p.ct.cp, p.done, p.dw.cp⟩
def pmCells (p : Pm) : List Value := [p.lc.ptr, .bool p.told, .bool p.has, .int .i64 p.ct.view, .int .i64 p.ct.inst, .int .i64 p.ct.seq, p.ct.vb, p.ct.vv, .bool p.done, .int .i64 p.dw.view, .int .i64 p.dw.inst, .int .i64 p.dw.seq, p.dw.vb, p.dw.vv]
structure Ins where
  i : Nat
  b : Nat
  cap : Nat
  f : Nat
  num : Int
  ahead : Int
  view : Int
  on : Bool
  l : List Pm
def Ins.st (x : Ins) : In := ⟨x.f, x.num, x.ahead, x.view, x.on, x.l.map Pm.pl⟩
abbrev Ins.ptr (x : Ins) : Value := .pointer (some ⟨x.i, 0, none⟩)
abbrev insO (f : Nat) (num ahead view : Int) (on : Bool) (v : Value) : Obj := .cells #[.int .i64 f, .int .i64 num, .int .i64 ahead, .int .i64 view, .bool on, v] 214 (0, 0)
abbrev Ins.o (x : Ins) : Obj := insO x.f x.num x.ahead x.view x.on (.slice (some ⟨x.b, 0, none⟩) 16 x.cap)

def VtsIn (w : World) (v : Value) (l : Vs) (D : List Nat) : Prop := ReadsIn w v 2 l.length (vsCells l) D
structure CtIn (w : World) (c : Ct) (D : List Nat) : Prop where
  b : BatIn w c.vb c.rs D
  bn : c.rs.length ≤ 100000
  v : VtsIn w c.vv c.vs D
  vn : c.vs.length ≤ 100000

theorem CtIn.dep {w w' : World} {c : Ct} {D : List Nat} (h : CtIn w c D) (hk : ∀ k ∈ D, w'.heap[k]? = w.heap[k]?) (hs : w.heap.size ≤ w'.heap.size) : CtIn w' c D := ⟨ReadsIn.dep h.b hk hs, h.bn, ReadsIn.dep h.v hk hs, h.vn⟩
theorem CtIn.mono {w : World} {c : Ct} {D D' : List Nat} (h : CtIn w c D) (hs : ∀ k ∈ D, k ∈ D') : CtIn w c D' := ⟨ReadsIn.mono h.b hs, h.bn, ReadsIn.mono h.v hs, h.vn⟩

structure InsOk (x : Ins) : Prop where
  n : x.l.length = 16
  f1 : 1 ≤ x.f
  f2 : x.f ≤ 4
  lf : ∀ p ∈ x.l, p.lc.f = x.f
  c1 : 16 ≤ x.cap
  a1 : 1 ≤ x.ahead
  a2 : x.ahead ≤ 16
  vw : 0 ≤ x.view ∧ x.view ≤ 12

/-- What an instance's certificates lead to; and its measures. -/
def certsR (x : Ins) : Res := imm (fun w D => InsOk x ∧ ∀ p ∈ x.l, CtIn w p.ct D ∧ CtIn w p.dw D) (fun h hk hs => ⟨h.1, fun p hp => ⟨(h.2 p hp).1.dep hk hs, (h.2 p hp).2.dep hk hs⟩⟩)
def pmR (p : Pm) : Res := slotR p.lc p.sl
def insHd (x : Ins) : List Res := [blk x.i x.o, segR x.b 241 (x.l.flatMap pmCells), certsR x]
def instR (x : Ins) : Res := joinR (insHd x ++ x.l.map pmR)

section
variable {B : Nat} {w0 W W' : World} {ss : List Res} {x : Ins}

/-- An instance that lies open. -/
abbrev OwnI (B : Nat) (w0 W : World) (x : Ins) (ss : List Res) : Prop := Own B w0 W (insHd x ++ (x.l.map pmR ++ ss))

theorem own_open (h : Own B w0 W (instR x :: ss)) : OwnI B w0 W x ss := by
  have := Own.open h
  rwa [List.append_assoc] at this
theorem own_shut (h : OwnI B w0 W x ss) : Own B w0 W (instR x :: ss) := by
  have h2 : Own B w0 W ((insHd x ++ x.l.map pmR) ++ ss) := by rwa [List.append_assoc]
  exact h2.shut

theorem oi_ok (h : OwnI B w0 W x ss) : InsOk x := by
  obtain ⟨D, ⟨⟨h1, _⟩, _⟩, _, _⟩ := (h.all (certsR x) (by simp [insHd])).1
  exact h1

theorem own_ok (h : Own B w0 W (instR x :: ss)) : InsOk x := oi_ok (own_open h)

theorem oi_blk (h : OwnI B w0 W x ss) : W.heap[x.i]? = some x.o := blk_out (h.all (blk x.i x.o) (by simp [insHd])).1
theorem oi_cells (h : OwnI B w0 W x ss) : W.cell? ⟨x.i, 0, none⟩ = some (.int .i64 x.f) ∧ W.cell? ⟨x.i, 1, none⟩ = some (.int .i64 x.num) ∧ W.cell? ⟨x.i, 2, none⟩ = some (.int .i64 x.ahead) ∧ W.cell? ⟨x.i, 3, none⟩ = some (.int .i64 x.view) ∧
    W.cell? ⟨x.i, 4, none⟩ = some (.bool x.on) ∧ W.cell? ⟨x.i, 5, none⟩ = some (.slice (some ⟨x.b, 0, none⟩) 16 x.cap) ∧ x.i < W.heap.size ∧ x.b < W.heap.size := by
  have hb := oi_blk h
  exact ⟨by rw [block_cell hb]; rfl, by rw [block_cell hb]; rfl, by rw [block_cell hb]; rfl, by rw [block_cell hb]; rfl, by rw [block_cell hb]; rfl, by rw [block_cell hb]; rfl, block_lt hb,
    (segR_at (h.all (segR x.b 241 (x.l.flatMap pmCells)) (by simp [insHd])).1).1⟩

theorem flat14 (l : List Pm) (k r : Nat) (hk : k < l.length) (hr : r < 14) : (l.flatMap pmCells)[k * 14 + r]? = (pmCells l[k])[r]? ∧ k * 14 + r < (l.flatMap pmCells).length := by
  have hl : (l.flatMap pmCells).length = l.length * 14 := flat_length (cells := pmCells) (sz := 14) (fun _ => rfl) l
  exact ⟨flat_get (cells := pmCells) (sz := 14) (fun _ => rfl) l k r l[k] (by simp) hr, by rw [hl]; omega⟩

theorem oi_at (h : OwnI B w0 W x ss) (k : Nat) (hk : k < x.l.length) (r : Nat) (hr : r < 14) : W.cell? ⟨x.b, k * 14 + r, none⟩ = (pmCells x.l[k])[r]? := by
  obtain ⟨-, h2, -⟩ := segR_at (h.all (segR x.b 241 (x.l.flatMap pmCells)) (by simp [insHd])).1
  obtain ⟨e1, e2⟩ := flat14 x.l k r hk hr
  rw [h2 _ e2, e1]

theorem oi_fz (h : OwnI B w0 W x ss) : (∀ o, W.frozen? ⟨x.b, o, none⟩ = false) ∧ ∀ o, W.frozen? ⟨x.i, o, none⟩ = false :=
  ⟨(segR_at (h.all (segR x.b 241 (x.l.flatMap pmCells)) (by simp [insHd])).1).2.2, fun o => block_frozen (oi_blk h) o⟩

/-- The k-th slot comes to the head. -/
theorem oi_pick (h : OwnI B w0 W x ss) (k : Nat) (hk : k < x.l.length) : Own B w0 W (pmR x.l[k] :: (insHd x ++ ((x.l.eraseIdx k).map pmR ++ ss))) := Own.pick h k hk

/-- The k-th slot is another one, or in another state. -/
theorem oi_unpick (k : Nat) (hk : k < x.l.length) (p : Pm) (h : Own B w0 W (pmR p :: (insHd x ++ ((x.l.eraseIdx k).map pmR ++ ss)))) (hc : pmCells p = pmCells x.l[k]) (hct : p.ct = x.l[k].ct ∧ p.dw = x.l[k].dw) (hf : p.lc.f = x.l[k].lc.f) :
    OwnI B w0 W { x with l := x.l.set k p } ss := by
  have h1 := Own.unpick (f := pmR) (x := p) k hk h
  have hcells : (x.l.set k p).flatMap pmCells = x.l.flatMap pmCells := by
    apply List.ext_getElem?
    intro j
    have hl : (x.l.flatMap pmCells).length = x.l.length * 14 := flat_length (cells := pmCells) (sz := 14) (fun _ => rfl) x.l
    have hl' : ((x.l.set k p).flatMap pmCells).length = x.l.length * 14 := by rw [flat_length (cells := pmCells) (sz := 14) (fun _ => rfl)]; simp
    by_cases hj : j < x.l.length * 14
    · have h0 : j / 14 < x.l.length := by omega
      have e1 := (flat14 x.l (j / 14) (j % 14) h0 (by omega)).1
      have e2 := (flat14 (x.l.set k p) (j / 14) (j % 14) (by simpa using h0) (by omega)).1
      rw [show j / 14 * 14 + j % 14 = j by omega] at e1 e2
      rw [e1, e2]
      by_cases hjk : k = j / 14
      · subst hjk
        rw [List.getElem_set_self, hc]
      · rw [List.getElem_set_ne hjk]
    · rw [List.getElem?_eq_none (by omega), List.getElem?_eq_none (by omega)]
  have hcr : Own B w0 W (insHd { x with l := x.l.set k p } ++ ((x.l.set k p).map pmR ++ ss)) := by
    have h2 : Own B w0 W (certsR x :: blk x.i x.o :: segR x.b 241 (x.l.flatMap pmCells) :: ((x.l.set k p).map pmR ++ ss)) := h1.perm (List.perm_middle (l₁ := [_, _]))
    have h3 := h2.alter (r' := certsR { x with l := x.l.set k p }) (by
      obtain ⟨D, ⟨⟨q1, q2⟩, q3⟩, q4, q5⟩ := h2.head
      refine ⟨D, ⟨⟨⟨by simpa using q1.n, q1.f1, q1.f2, fun p' hp' => ?_, q1.c1, q1.a1, q1.a2, q1.vw⟩, fun p' hp' => ?_⟩, q3⟩, q4, q5⟩
      · rcases List.mem_or_eq_of_mem_set hp' with hp' | rfl
        · exact q1.lf p' hp'
        · rw [hf]; exact q1.lf _ (by simp)
      · rcases List.mem_or_eq_of_mem_set hp' with hp' | rfl
        · exact q2 p' hp'
        · rw [hct.1, hct.2]; exact q2 _ (by simp)) (by simp [certsR, imm])
    have h4 : Own B w0 W ([blk x.i x.o, segR x.b 241 (x.l.flatMap pmCells), certsR { x with l := x.l.set k p }] ++ ((x.l.set k p).map pmR ++ ss)) := h3.perm (List.perm_middle (l₁ := [_, _])).symm
    unfold insHd
    rw [hcells]
    exact h4
  exact hcr

end
end Go.Proofs.YtannckelmojkoaaGreat

/- inst: at, Done, View, Installed. -/
namespace Go.Proofs.YtannckelmojkoaaGreat
open Go.RowKit Go.Heap

set_option maxHeartbeats 400000 in
theorem at_no (i b cap : Nat) (seq : Int) (w : World) (h : seq < 1 ∨ 16 < seq) (h5 : w.cell? ⟨i, 5, none⟩ = some (.slice (some ⟨b, 0, none⟩) 16 cap)) :
    Calls Tryz.prog 195 #[.pointer (some ⟨i, 0, none⟩), .int .i64 seq] w fun e w' => e = .returned (.pointer none) ∧ w = w' := by
  by_cases h1 : seq < 1
  · have hb : decide (seq < 1) = true := by simp; omega
    go_enter Tryz.func195, Tryz.ntmps195
    go_wp2_with fail
    go_ret
    exact ⟨rfl, rfl⟩
  · have hb : decide (seq < 1) = false := by simp; omega
    have h2 : 16 < seq := by omega
    go_enter Tryz.func195, Tryz.ntmps195
    go_wp2_with fail
    go_ret
    exact ⟨rfl, rfl⟩

set_option maxHeartbeats 400000 in
theorem at_yes (i b cap : Nat) (seq : Int) (w : World) (h1 : 1 ≤ seq) (h2 : seq ≤ 16) (h5 : w.cell? ⟨i, 5, none⟩ = some (.slice (some ⟨b, 0, none⟩) 16 cap)) :
    Calls Tryz.prog 195 #[.pointer (some ⟨i, 0, none⟩), .int .i64 seq] w fun e w' => e = .returned (.pointer (some ⟨b, (seq.toNat - 1) * 14, none⟩)) ∧ w = w' := by
  have hb : decide (seq < 1) = false := by simp; omega
  have hb2 : decide (16 < seq) = false := by simp; omega
  go_enter Tryz.func195, Tryz.ntmps195
  go_wp2_with fail
  go_ret
  exact ⟨rfl, rfl⟩

theorem take_while (l : List Pl) (n : Nat) (h : ∀ j (hj : j < l.length), j < n → l[j].done = true) (hn : n ≤ l.length) (he : ∀ (hj : n < l.length), l[n].done = false) : (l.takeWhile (·.done)).length = n := by
  induction l generalizing n with
  | nil => simp at hn; simp [hn]
  | cons p l ih =>
    match n with
    | 0 =>
      have := he (by simp)
      simp at this
      simp [List.takeWhile, this]
    | n + 1 =>
      have hp := h 0 (by simp) (by omega)
      simp at hp
      rw [List.takeWhile_cons, if_pos hp, List.length_cons, ih n (fun j hj hjn => by have := h (j + 1) (by simp; omega) (by omega); simpa using this) (by simpa using hn) (fun hj => by have := he (by simp; omega); simpa using this)]

section
variable {B : Nat} {w0 W W' : World} {ss : List Res} {x : Ins}

theorem oi_done (h : OwnI B w0 W x ss) (k : Nat) (hk : k < x.l.length) : W.cell? ⟨x.b, k * 14 + 8, none⟩ = some (.bool x.l[k].done) := oi_at h k hk 8 (by omega)
theorem oi_told (h : OwnI B w0 W x ss) (k : Nat) (hk : k < x.l.length) : W.cell? ⟨x.b, k * 14 + 1, none⟩ = some (.bool x.l[k].told) := oi_at h k hk 1 (by omega)
theorem oi_ptr (h : OwnI B w0 W x ss) (k : Nat) (hk : k < x.l.length) : W.cell? ⟨x.b, k * 14, none⟩ = some x.l[k].lc.ptr := oi_at h k hk 0 (by omega)

def DoneP (w : World) (n : Nat) (e : Ending) (w' : World) : Prop := e = .returned (.int .i64 n) ∧ w = w'

set_option maxHeartbeats 400000 in
theorem done_open (h : OwnI B w0 W x ss) : Calls Tryz.prog 156 #[x.ptr] W (DoneP W (doneI x.st)) := by
  obtain ⟨c0, c1, c2, c3, c4, c5, l1, l2⟩ := oi_cells h
  have hn := (oi_ok h).n
  have HN := Lib.hid hn
  have HD := Lib.hid (fun n h1 h2 h3 => take_while (x.l.map Pm.pl) n h1 h2 h3)
  have H := Lib.hid h
  clear h c0 c1 c2 c3 c4 hn
  go_enter Tryz.func156, Tryz.ntmps156
  go_wp2_with fail
  go_loop [3] (fun n => ∃ k : Nat, k ≤ 16 ∧ n = .int .i64 k ∧ Hid (∀ j (hj : j < x.l.length), j < k → x.l[j].done = true)) (fun n => 16 - (intOf n).toNat)
  case atStart => exact ⟨0, by omega, rfl, Lib.hid (by intro j _ hj; omega)⟩
  case round =>
    obtain ⟨k, hk, rfl, HA⟩ := hrel
    by_cases hlt : k < 16
    · have hkI : (k : Int) < 16 := by omega
      have hkl : k < x.l.length := by rw [HN.out]; exact hlt
      have cd := oi_done H.out k hkl
      cases hd : x.l[k].done
      · rw [hd] at cd
        have HDK := Lib.hid hd
        clear hd
        go_wp2_with fail
        go_ret
        refine ⟨ret_int ?_, rfl⟩
        rw [show doneI x.st = k from HD.out k (fun j hj hjk => by simpa [Pm.pl] using HA.out j (by simpa using hj) hjk) (by simp; omega) (fun hj => by simpa [Pm.pl] using HDK.out)]
      · rw [hd] at cd
        have HDK := Lib.hid hd
        clear hd
        go_wp2_with fail
        go_round
        case rel =>
          refine ⟨k + 1, by omega, by go_num, Lib.hid (fun j hj hjk => ?_)⟩
          by_cases e : j = k
          · subst e; exact HDK.out
          · exact HA.out j hj (by omega)
        case measure => simp [intOf]; omega
    · have hk16 : k = 16 := by omega
      subst hk16
      go_wp2_with fail
      go_ret
      refine ⟨ret_int ?_, rfl⟩
      rw [show doneI x.st = 16 from HD.out 16 (fun j hj hjk => by simpa [Pm.pl] using HA.out j (by simpa using hj) hjk) (by simp [HN.out]) (fun hj => by simp [HN.out] at hj)]
      rfl

theorem ins_done (h : Own B w0 W (instR x :: ss)) {i : Nat} (hi : x.i = i) : Calls Tryz.prog 156 #[.pointer (some ⟨i, 0, none⟩)] W (DoneP W (doneI x.st)) := by
  subst hi; exact done_open (own_open h)

set_option maxHeartbeats 400000 in
theorem ins_installed (h : Own B w0 W (instR x :: ss)) {i : Nat} (hi : x.i = i) : Calls Tryz.prog 73 #[.pointer (some ⟨i, 0, none⟩)] W fun e w' => e = .returned (.bool x.on) ∧ W = w' := by
  subst hi
  obtain ⟨c0, c1, c2, c3, c4, c5, l1, l2⟩ := oi_cells (own_open h)
  clear h c0 c1 c2 c3 c5
  go_enter Tryz.func73, Tryz.ntmps73
  go_wp2_with fail
  go_ret
  exact ⟨rfl, rfl⟩

end
end Go.Proofs.YtannckelmojkoaaGreat

/- inst: Chosen, Vote, Pre. -/
namespace Go.Proofs.YtannckelmojkoaaGreat
open Go.RowKit Go.Heap

section
variable {B : Nat} {w0 W W' : World} {ss : List Res} {x : Ins}

theorem plAt_some {seq : Int} {k : Nat} (h : InsOk x) (hk : idx seq = some k) : ∃ hk' : k < x.l.length, plAt x.st seq = some x.l[k].pl := by
  have hk' : k < x.l.length := by rw [h.n]; exact (idx_lt hk).1
  exact ⟨hk', by simp [plAt, hk, Ins.st, hk']⟩
theorem plAt_none {seq : Int} {st : In} (hk : idx seq = none) : plAt st seq = none := by simp [plAt, hk]

abbrev Ins.sl (x : Ins) (k : Nat) (p : Pm) : Ins := { x with l := x.l.set k p }
theorem st_set (x : Ins) (k : Nat) (hk : k < x.l.length) (p : Pm) (g : Pl → Pl) (hp : p.pl = g x.l[k].pl) : (x.sl k p).st = x.st.upd k g := by
  simp only [Ins.st, In.upd, In.mk.injEq, true_and]
  apply List.ext_getElem?
  intro j
  rw [List.map_set, List.getElem?_modify, List.getElem?_set]
  by_cases e : k = j
  · subst e
    simp [hk, hp]
  · simp [e]

def ChosenP (W : World) (r : List Rq × Bool) (e : Ending) (w' : World) : Prop := ∃ u, e = .returned (.tuple #[u, .bool r.2]) ∧ Upd [] W w' ∧ Bat w' u r.1 ∧ ∀ k ∈ blkOf u, W.heap.size ≤ k

set_option maxHeartbeats 400000 in
theorem ins_chosen (h : Own B w0 W (instR x :: ss)) {i : Nat} (hi : x.i = i) (seq : Int) : Calls Tryz.prog 220 #[.pointer (some ⟨i, 0, none⟩), .int .i64 seq] W (ChosenP W (chosenI x.st seq)) := by
  subst hi
  have ho := own_open h
  obtain ⟨-, -, -, -, -, c5, l1, l2⟩ := oi_cells ho
  cases hk : idx seq with
  | none =>
    have hs := idx_none hk
    have HE := Lib.hid (show chosenI x.st seq = ([], false) by simp [chosenI, plAt_none hk])
    have HA := Lib.hid (at_no x.i x.b x.cap seq W hs c5)
    clear ho h hk hs c5
    go_enter Tryz.func220, Tryz.ntmps220
    go_wp2_with fail
    refine HA.out.mono ?_
    rintro e w' ⟨rfl, rfl⟩
    go_wp2_with fail
    go_ret2
    rw [HE.out]
    exact ⟨.slice none 0 0, rfl, Upd.refl _ _, Reads.nil _ _, by simp [blkOf]⟩
  | some k =>
    obtain ⟨hl, hp⟩ := plAt_some (oi_ok ho) hk
    have HE := Lib.hid (show chosenI x.st seq = (chosenS x.l[k].sl, x.l[k].sl.has) by simp [chosenI, hp, Pm.pl])
    obtain ⟨i1, i2⟩ := idx_lt hk
    have HA := Lib.hid (at_yes x.i x.b x.cap seq W (by omega) (by omega) c5)
    have hks : seq.toNat - 1 = k := by omega
    rw [hks] at HA
    have cp := oi_ptr ho k hl
    have HC := Lib.hid (own_chosen (oi_pick ho k hl))
    clear ho h hk c5 hp i2 hks
    go_enter Tryz.func220, Tryz.ntmps220
    go_wp2_with fail
    refine HA.out.mono ?_
    rintro e w' ⟨rfl, rfl⟩
    go_wp2_with fail
    refine HC.out.mono ?_
    rintro e w' ⟨u, rfl, hu, hb, hn⟩
    have HU := Lib.hid hu
    have HB := Lib.hid hb
    have HN := Lib.hid hn
    clear hu hb hn
    go_wp2_with fail
    go_ret2
    rw [HE.out]
    exact ⟨u, rfl, HU.out, HB.out, HN.out⟩

end
end Go.Proofs.YtannckelmojkoaaGreat

/- inst: Pre, Next. -/
namespace Go.Proofs.YtannckelmojkoaaGreat
open Go.RowKit Go.Heap

section
variable {B : Nat} {w0 W W' : World} {ss rs : List Res} {x : Ins}

theorem quiet_eq {P : Program} {f : FuncId} {args : Array Value} {w : World} {n : Nat} {v : Value} (h : Calls P f args (w.drewN n) fun e w' => e = .returned v ∧ w.drewN n = w') : Calls P f args (w.drewN n) fun e w'' => e = .returned v ∧ ∃ m, w'' = w.drewN m :=
  h.mono fun _ _ ⟨he, hm⟩ => ⟨he, n, hm.symm⟩

end
end Go.Proofs.YtannckelmojkoaaGreat

/- inst: Next; fresh, cert. -/
namespace Go.Proofs.YtannckelmojkoaaGreat
open Go.RowKit Go.Heap

section
variable {B : Nat} {w0 W W' : World} {ss rs : List Res} {x : Ins}

set_option maxHeartbeats 1000000 in
theorem ins_next (h : Own B w0 W (instR x :: ss)) {i : Nat} (hi : x.i = i) : Calls Tryz.prog 154 #[.pointer (some ⟨i, 0, none⟩)] W fun e w' => e = .returned (.int .i64 (nextI x.st)) ∧ Upd [] W w' := by
  subst hi
  have ho := own_open h
  obtain ⟨-, -, -, -, -, c5, l1, l2⟩ := oi_cells ho
  have HN := Lib.hid (oi_ok ho).n
  have HL := Lib.hid (fun k h1 h2 h3 => lastHas_of (x.l.map Pm.pl) k h1 h2 h3)
  have H := Lib.hid ho
  clear ho h
  go_enter Tryz.func154, Tryz.ntmps154
  go_wp2_with fail
  go_loopw [3] (fun n wr => ∃ k : Nat, k ≤ 16 ∧ n = .int .i64 k ∧ Hid (∀ j (hj : j < x.l.length), k ≤ j → x.l[j].sl.has = false) ∧ Hid (Upd [] W wr)) (fun n _ => (intOf n).toNat)
  case atStart => exact ⟨16, by omega, rfl, Lib.hid (by intro j hj hk; rw [HN.out] at hj; omega), Lib.hid (Upd.refl _ _)⟩
  case round =>
    clear c5
    obtain ⟨k, hk, rfl, HA, HU⟩ := hrel
    have hor := H.out.upd0 HU.out
    obtain ⟨-, -, -, -, -, c5, -, -⟩ := oi_cells hor
    by_cases h0 : k = 0
    · subst h0
      clear hor
      go_wp2_with fail
      go_ret
      refine ⟨ret_int ?_, HU.out⟩
      rw [nextI, show lastHas x.st.l = 0 from HL.out 0 (by simp) (fun j hj hk => by simpa [Pm.pl] using HA.out j (by simpa using hj) hk) (fun j _ e => by omega)]
      rfl
    · have hk0 : (0 : Int) < (k : Int) := by omega
      have hk1 : (k : Int) - 1 = ((k - 1 : Nat) : Int) := by omega
      have hl : k - 1 < x.l.length := by rw [HN.out]; omega
      have hsub : IntKind.i64.wrap ((k : Int) - 1) = ((k - 1 : Nat) : Int) := by rw [hk1]; exact IntWalk.i64_in _ (by omega)
      have cp := oi_ptr hor (k - 1) hl
      have HC := Lib.hid (own_chosen (oi_pick hor (k - 1) hl))
      clear hor hk1 h0
      go_wp2_with fail
      refine HC.out.mono ?_
      rintro e w' ⟨u, rfl, hu, -, -⟩
      have HU2 := Lib.hid (HU.out.trans hu)
      clear hu cp
      cases hh : x.l[k - 1].sl.has
      · have HH := Lib.hid hh
        clear hh
        go_wp2_with fail
        go_roundw
        case rel =>
          refine ⟨k - 1, by omega, by go_num, Lib.hid (fun j hj hkj => ?_), HU2⟩
          by_cases e : j = k - 1
          · subst e; exact HH.out
          · exact HA.out j hj (by omega)
        case measure => simp [intOf]; omega
      · have HH := Lib.hid hh
        clear hh
        go_wp2_with fail
        go_ret
        refine ⟨ret_int ?_, HU2.out⟩
        rw [nextI, show lastHas x.st.l = k from HL.out k (by simp [HN.out]; omega) (fun j hj hk => by simpa [Pm.pl] using HA.out j (by simpa using hj) hk) (fun j hj e => by subst e; simpa [Pm.pl] using HH.out)]
        simp

end
end Go.Proofs.YtannckelmojkoaaGreat

/- A law's state: one slot, some batches that stay. -/
namespace Go.Proofs.YtannckelmojkoaaGreat
open Go.RowKit Go.Heap

def rq (c t : Int) : Rq := ⟨c, t, 0, 0, 0, 0⟩

abbrev rqObj (c t : Int) : Obj := .cells #[.int .i64 c, .int .i64 t, .int .i64 0, .int .i64 0, .int .i64 0, .int .i64 0] 38

theorem bat_one {w : World} {g : Nat} {c t : Int} (h : w.heap[g]? = some (rqObj c t)) : Bat w (.slice (some ⟨g, 0, none⟩) 1 1) [rq c t] := by
  refine ⟨some ⟨g, 0, none⟩, 1, rfl, Nat.le_refl _, by simp [maxLen], rfl, (fun e => by cases e), fun _ => ⟨g, 0, rfl, block_lt h, fun j hj => ?_⟩⟩
  rw [Nat.zero_add, block_cell h]
  match j, hj with
  | 0, _ => rfl
  | 1, _ => rfl
  | 2, _ => rfl
  | 3, _ => rfl
  | 4, _ => rfl
  | 5, _ => rfl

theorem vts_form {w : World} {v : Value} {l : Vs} (h : Vts w v l) : ∃ ao cap, v = .slice ao l.length cap := let ⟨ao, cap, hv, _⟩ := h; ⟨ao, cap, hv⟩

abbrev sl1 (g : Nat) : Value := .slice (some ⟨g, 0, none⟩) 1 1

/-- One slot at L, in state st; the batches bs lie where the slot does not write; below B all is as in w0. -/
structure St (B : Nat) (w0 W : World) (L : Loc) (st : Sl) (bs : List (Value × List Rq)) : Prop where
  below : Below B w0 W
  size : B ≤ W.heap.size
  M : ∀ k ∈ L.M, B ≤ k
  on : On W L st []
  bat : ∀ p ∈ bs, Bat W p.1 p.2 ∧ ∀ b ∈ blkOf p.1, b ∉ L.M ∧ b < W.heap.size

section
variable {B : Nat} {w0 W W' : World} {L : Loc} {st : Sl} {bs : List (Value × List Rq)}

theorem St.upd0 (h : St B w0 W L st bs) (hu : Upd [] W W') : St B w0 W' L st bs where
  below := h.below.trans (hu.below.mono h.size)
  size := Nat.le_trans h.size hu.size
  M := h.M
  on := h.on.upd0 hu
  bat := fun p hp => ⟨(h.bat p hp).1.upd hu (by simp), fun b hb => ⟨((h.bat p hp).2 b hb).1, Nat.lt_of_lt_of_le ((h.bat p hp).2 b hb).2 hu.size⟩⟩

theorem St.alloc (h : St B w0 W L st bs) (o : Obj) : St B w0 (W.alloc o) L st bs := h.upd0 ((Upd.refl _ _).alloc o)
theorem St.drew (h : St B w0 W L st bs) : St B w0 W.drew L st bs := h.upd0 (Upd.refl _ _).drew

theorem St.batch (h : St B w0 W L st bs) (c t : Int) : St B w0 (W.alloc (rqObj c t)) L st ((sl1 W.heap.size, [rq c t]) :: bs) where
  below := (h.alloc _).below
  size := (h.alloc (rqObj c t)).size
  M := h.M
  on := (h.alloc _).on
  bat := by
    intro p hp
    rcases List.mem_cons.1 hp with rfl | hp
    · refine ⟨bat_one (heap_alloc_new W _), fun b hb => ?_⟩
      simp [blkOf] at hb
      subst hb
      exact ⟨fun hn => by have := h.on.lt _ hn; omega, by simp⟩
    · exact (h.alloc _).bat p hp

theorem St.nil (h : St B w0 W L st bs) : St B w0 W L st ((.slice none 0 0, []) :: bs) :=
  ⟨h.below, h.size, h.M, h.on, fun p hp => by
    rcases List.mem_cons.1 hp with rfl | hp
    · exact ⟨Reads.nil _ _, by simp [blkOf]⟩
    · exact h.bat p hp⟩

end
end Go.Proofs.YtannckelmojkoaaGreat

/- wp_text, where a slot is written that an earlier 'move' has looked at ('x = append(x, ..)'). -/
namespace Go.Mix
open Go

/-- It only computes, whatever the frame holds. -/
def calm (o : Oper) : Bool :=
  match o.op with
  | .move _ | .assign _ | .extract _ _ | .pick _ _ _ | .field _ _ _ | .indexAddr _ _ _ | .index _ _ _ | .slice _ _ _ _ _ | .makeInterface _ _ => true
  | _ => false

/-- No operation writes a slot that this or an earlier one looks at, but where the earlier one only computes whatever it sees. -/
def stillB2 (ops : Array Oper) : Bool :=
  (List.range ops.size).all fun i => (List.range ops.size).all fun j => decide (j < i) || match ops[i]?, ops[j]? with
    | some oi, some oj => calm oi || match oj.dst with
      | some d => !(oi.looksAt ops).contains d
      | none => true
    | _, _ => true

section
variable {P : Program} {ops : Array Oper} {Q : Exit → Act → World → Prop}

theorem calm_pure {a : Act} {o : Oper} (h : calm o = true) : pureOp P a o = true := by
  obtain ⟨dst, op, type, pos, after, guard⟩ := o
  unfold calm at h
  unfold pureOp
  dsimp only at h ⊢
  split at h <;> first | rfl | cases h

theorem stillB2_spec (h : stillB2 ops = true) {i j : Nat} {oi oj : Oper} (hc : calm oi = false) (hi : ops[i]? = some oi) (hj : ops[j]? = some oj) (hij : i ≤ j) : ∀ t ∈ oi.looksAt ops, oj.dst ≠ some t := by
  intro t ht e
  simp only [stillB2, List.all_eq_true, List.mem_range] at h
  have := h i (Array.getElem?_eq_some_iff.1 hi).1 j (Array.getElem?_eq_some_iff.1 hj).1
  rw [hi, hj] at this
  simp only [e, hc, Bool.false_or, Bool.or_eq_true, decide_eq_true_eq, Bool.not_eq_true', List.contains_eq_mem, decide_eq_false_iff_not] at this
  rcases this with h | h
  · omega
  · exact h ht

theorem text_mix2 (hst : stillB2 ops = true) : ∀ (l : List Oper) (k : Nat) (a : Act) (w : World), ops.toList.drop k = l → wpList P ops (Fin P ops Q) l a w → mix P ops (fun _ => True) Q (autoC ops) (List.range' k l.length) a w := by
  intro l
  induction l with
  | nil => intro k a w _ h; exact h.2
  | cons o l ih =>
    intro k a w hl h
    have hk : ops[k]? = some o := by
      have : (ops.toList.drop k)[0]? = some o := by rw [hl]; rfl
      rw [List.getElem?_drop, Array.getElem?_toList] at this
      simpa using this
    have hl' : ops.toList.drop (k + 1) = l := by
      rw [← List.drop_drop, hl]; rfl
    have hlater : ∀ o' ∈ o :: l, ∃ j, k ≤ j ∧ ops[j]? = some o' := by
      intro o' ho'
      rw [← hl] at ho'
      obtain ⟨j, hj⟩ := List.getElem?_of_mem ho'
      rw [List.getElem?_drop, Array.getElem?_toList] at hj
      exact ⟨k + j, by omega, hj⟩
    have hout := list_out _ _ _ h
    have h := wpList_cons_fin h
    rw [List.length_cons, List.range'_succ]
    refine ⟨o, hk, ?_⟩
    have hc : autoC ops k = clsOf o := by simp [autoC, hk]
    rw [hc]
    split at h
    · rename_i hw
      by_cases hcl : clsOf o ≤ 1
      · unfold stepMix
        rw [if_pos hcl]
        -- what it runs to
        have hrun : ∃ v, (∀ w', (if clsOf o = 0 then True else w' = w) → (execOp a.eval o).run P w' = .ok (.value v) w') ∧ wpList P ops (Fin P ops Q) l (a.put o.dst v) w := by
          unfold Oper.wp at h
          cases hr : (execOp a.eval o).run P w with
          | halt x w' => rw [hr] at h; cases x <;> simp only [Oper.upon] at h; exact h.elim
          | ok n w' =>
            by_cases hc0 : clsOf o = 0
            · have hpure : pureOp P a o = true := by
               by_cases hcm : calm o = true
               · exact calm_pure hcm
               obtain ⟨a', w'', hv, _, hsame⟩ := hout
               have hlook : ∀ t ∈ o.looksAt ops, a'.tmps[t]? = a.tmps[t]? := fun t ht => hsame t fun o' ho' => by
                 obtain ⟨j, hj, hoj⟩ := hlater o' ho'
                 exact stillB2_spec hst (by simpa using hcm) hk hoj hj t ht
               refine pureOp_of (eval_of hlook) ?_
               simp only [okVals, List.all_eq_true, List.mem_range] at hv
               have h1 := hv k (Array.getElem?_eq_some_iff.1 hk).1
               rw [hk] at h1
               simp only [hc0, bne_self_eq_false, Bool.false_or, Bool.or_eq_true, Bool.not_eq_true', wanted_of hlook, hw] at h1
               rcases h1 with h1 | h1
               · cases h1
               · exact h1
              obtain ⟨rfl, v, rfl, hall⟩ := pure_ind hpure _ _ _ hr
              rw [hr] at h
              exact ⟨v, fun w2 _ => hall w2, h⟩
            · have hload : ∃ t x, o.op = .load t x := by
                have h1 : clsOf o = 1 := by omega
                unfold clsOf at h1
                split at h1 <;> first | (rename_i heq; exact ⟨_, _, heq⟩) | omega
              obtain ⟨t, x, hop⟩ := hload
              obtain ⟨rfl, v, rfl⟩ := load_value hop hr
              rw [hr] at h
              refine ⟨v, fun w2 h2 => ?_, h⟩
              rw [if_neg hc0] at h2
              subst h2
              exact hr
        obtain ⟨v, h1, h2⟩ := hrun
        exact ⟨v, .inl ⟨hw, h1⟩, ih (k + 1) _ _ hl' h2⟩
      · unfold stepMix
        rw [if_neg hcl]
        unfold Loud
        rw [if_pos hw]
        exact Oper.wp_post (Q := NoQ) (fun a' w' h' => ⟨trivial, ih (k + 1) _ _ hl' h'⟩) h
    · rename_i hw
      have hw' : Region.wanted o (yielded ops a.tmps) = false := by simpa using hw
      by_cases hcl : clsOf o ≤ 1
      · unfold stepMix
        rw [if_pos hcl]
        exact ⟨undef, .inr ⟨hw', rfl⟩, ih (k + 1) _ _ hl' h⟩
      · unfold stepMix
        rw [if_neg hcl]
        unfold Loud
        rw [if_neg (by simp [hw'])]
        exact ⟨trivial, ih (k + 1) _ _ hl' h⟩

theorem wp_region_text2 {id : Nat} {a : Act} {w : World} (hm : P.follows .mixedOrders = true) (hok : (okRegion ops (autoC ops) && stillB2 ops) = true)
    (h : wpList P ops (Fin P ops Q) ops.toList a w.drew) : (Code.region id ops true).wp P Q a w := by
  simp only [Bool.and_eq_true] at hok
  refine wp_region_mix (fun _ => True) (autoC ops) hm hok.1 trivial ?_
  have := text_mix2 hok.2 ops.toList 0 a w.drew rfl h
  rw [Array.length_toList, ← List.range_eq_range'] at this
  exact this

/-- The rule, the operations written out. -/
theorem wp_text2 {id : Nat} {l : List Oper} {a : Act} {w : World} (hm : P.follows .mixedOrders = true) (hok : (okRegion l.toArray (autoC l.toArray) && stillB2 l.toArray) = true)
    (h : wpList P l.toArray (Fin P l.toArray Q) l a w.drew) : (Code.region id l.toArray true).wp P Q a w := wp_region_text2 hm hok h

end
end Go.Mix

/- inst: fresh, cert. -/
namespace Go.Proofs.YtannckelmojkoaaGreat
open Go.RowKit Go.Heap

abbrev ctO (view inst seq : Int) (vb vv : Value) : Obj := .cells #[.int .i64 view, .int .i64 inst, .int .i64 seq, vb, vv] 42 (0, 0)

theorem ct_cells {w : World} {b : Nat} {view inst seq : Int} {vb vv : Value} (h : w.heap[b]? = some (ctO view inst seq vb vv)) : w.cell? ⟨b, 0, none⟩ = some (.int .i64 view) ∧ w.cell? ⟨b, 1, none⟩ = some (.int .i64 inst) ∧ w.cell? ⟨b, 2, none⟩ = some (.int .i64 seq) ∧
    w.cell? ⟨b, 3, none⟩ = some vb ∧ w.cell? ⟨b, 4, none⟩ = some vv ∧ b < w.heap.size ∧ ∀ o, w.frozen? ⟨b, o, none⟩ = false :=
  ⟨by rw [block_cell h]; rfl, by rw [block_cell h]; rfl, by rw [block_cell h]; rfl, by rw [block_cell h]; rfl, by rw [block_cell h]; rfl, block_lt h, block_frozen h⟩

/-- What fresh gives: the same in new memory. -/
def FreshP (w : World) (c : Ct) (e : Ending) (w' : World) : Prop :=
  ∃ c' : Ct, e = .returned (ctAgg c') ∧ c'.cp = c.cp ∧ Upd [] w w' ∧ Bat w' c'.vb c'.rs ∧ Vts w' c'.vv c'.vs ∧ (∀ k ∈ blkOf c'.vb, w.heap.size ≤ k) ∧ ∀ k ∈ blkOf c'.vv, w.heap.size ≤ k

theorem vsCells_one (l : Vs) : ∀ u ∈ vsCells l, u.oneCell' = true := by
  intro u hu
  simp only [vsCells, List.mem_flatMap] at hu
  obtain ⟨r, _, h⟩ := hu
  simp only [List.mem_cons, List.not_mem_nil, or_false] at h
  rcases h with rfl | rfl <;> rfl

theorem row_shape {w : World} {B E sz n : Nat} {v : Value} {xs : List Value} (h : w.ownsRow B E sz v n xs) : ∃ ao cap, v = .slice ao n cap := by
  rcases h.2 with ⟨rfl, rfl⟩ | ⟨g, cap, cur, rfl, _⟩
  · exact ⟨none, 0, rfl⟩
  · exact ⟨_, cap, rfl⟩
theorem owns_reads {w : World} {B E sz n : Nat} {v : Value} {xs : List Value} (h : w.ownsRow B E sz v n xs) : Reads w v sz n xs := by
  rcases h.2 with ⟨rfl, rfl⟩ | ⟨g, cap, cur, rfl, _⟩
  · have : xs = [] := List.eq_nil_of_length_eq_zero (by simpa using h.1)
    subst this
    exact Reads.nil _ _
  · exact Reads.of_own h
set_option maxHeartbeats 1000000 in
theorem fresh_ct (c : Ct) (w : World) (hb : Bat w c.vb c.rs) (hbn : c.rs.length ≤ 100000) (hv : Vts w c.vv c.vs) (hvn : c.vs.length ≤ 100000) :
    Calls Tryz.prog 189 #[ctAgg c] w (FreshP w c) := by
  obtain ⟨i0, hi, hz0, hz1, hz2⟩ := info_parts Tryz.infoReq
  obtain ⟨j0, hj, hy0, hy1, hy2⟩ := info_parts Tryz.infoVote
  obtain ⟨view, inst, seq, vb, vv, rs, vs⟩ := c
  simp only at hb hbn hv hvn
  obtain ⟨ao, cap, rfl⟩ := bat_form hb
  obtain ⟨co, cav, rfl⟩ := vts_form hv
  have h1 := (((((Own.start (Below.refl w.heap.size w) (Nat.le_refl _)).red hb (by simp [Ms])).red hv (by simp [Ms, redR, imm])).box (ctO view inst seq (.slice ao rs.length cap) (.slice co vs.length cav))).box (ctO 0 0 0 (.slice none 0 0) (.slice none 0 0)))
  simp only [hs_alloc] at h1
  have H1 := Lib.hid h1
  clear hb hv h1
  go_enter Tryz.func189, Tryz.ntmps189
  go_upto_region 1 with fail
  generalize (w.alloc (ctO view inst seq (.slice ao rs.length cap) (.slice co vs.length cav))).alloc (ctO 0 0 0 (.slice none 0 0) (.slice none 0 0)) = w1 at *
  obtain ⟨f0, f1, f2, f3, f4, fl, fz⟩ := ct_cells H1.out.drop.blk_out
  clear fz
  go_wp2_with (at_builtin; refine wpList_fresh rfl (.tmp 4) 39 rfl 38 i0 (.agg #[.int .i64 0, .int .i64 0, .int .i64 0, .int .i64 0, .int .i64 0, .int .i64 0]) 6 48 Tryz.underlying39 hi hz0 hz1 hz2 rfl (by decide) _ _ _ rfl (redR_out H1.out.drop.drop.drop.head) (rqsCells_one rs) (by omega) ?_)
  intro v2 w2 hown2 hu2
  obtain ⟨ao2, cap2, rfl⟩ := row_shape hown2
  have H2 := Lib.hid ((H1.out.row1 hu2 hown2).swap.rot)
  clear f0 f1 f2 f3 f4 fl hown2 hu2 H1
  obtain ⟨f0, f1, f2, f3, f4, fl, fz⟩ := ct_cells H2.out.blk_out
  have fz3 := fz 3
  clear fz
  go_upto_region 2 with fail
  have H3 := Lib.hid (H2.out.store 3 (.slice ao2 rs.length cap2))
  generalize w2.setCell ⟨w.heap.size, 3, none⟩ (.slice ao2 rs.length cap2) = w3 at *
  clear f0 f1 f2 f3 f4 fl fz3 H2
  obtain ⟨f0, f1, f2, f3, f4, fl, fz⟩ := ct_cells H3.out.blk_out
  clear fz
  go_wp2_with (at_builtin; refine wpList_fresh rfl (.tmp 8) 40 rfl 177 j0 (.agg #[.int .i64 0, .int .i64 0]) 2 16 Tryz.underlying40 hj hy0 hy1 hy2 rfl (by decide) _ _ _ rfl (redR_out H3.out.drop.drop.drop.head) (vsCells_one vs) (by omega) ?_)
  intro v4 w4 hown4 hu4
  obtain ⟨ao4, cap4, rfl⟩ := row_shape hown4
  have H4 := Lib.hid ((H3.out.row1 hu4 hown4).swap)
  clear f0 f1 f2 f3 f4 fl hown4 hu4 H3
  obtain ⟨f0, f1, f2, f3, f4, fl, fz⟩ := ct_cells H4.out.blk_out
  have fz4 := fz 4
  clear fz
  go_upto_region 3 with fail
  have H5 := Lib.hid (H4.out.store 4 (.slice ao4 vs.length cap4))
  generalize w4.setCell ⟨w.heap.size, 4, none⟩ (.slice ao4 vs.length cap4) = w5 at *
  clear f0 f1 f2 f3 f4 fl fz4 H4
  obtain ⟨f0, f1, f2, f3, f4, fl, fz⟩ := ct_cells H5.out.blk_out
  obtain ⟨g0, g1, g2, g3, g4, gl, gz⟩ := ct_cells H5.out.drop.drop.blk_out
  have gz0 := gz 0
  have gz1 := gz 1
  have gz2 := gz 2
  have gz3 := gz 3
  have gz4 := gz 4
  clear fz gz
  go_wp2_with fail
  have H6 := Lib.hid ((((((H5.out.rot.store 0 (.int .i64 view)).store 1 (.int .i64 inst)).store 2 (.int .i64 seq)).store 3 (.slice ao2 rs.length cap2)).store 4 (.slice ao4 vs.length cap4)))
  generalize ((((w5.setCell ⟨w.heap.size + 1, 0, none⟩ (.int .i64 view)).setCell ⟨w.heap.size + 1, 1, none⟩ (.int .i64 inst)).setCell ⟨w.heap.size + 1, 2, none⟩ (.int .i64 seq)).setCell ⟨w.heap.size + 1, 3, none⟩ (.slice ao2 rs.length cap2)).setCell ⟨w.heap.size + 1, 4, none⟩ (.slice ao4 vs.length cap4) = w6 at *
  clear f0 f1 f2 f3 f4 fl g0 g1 g2 g3 g4 gl gz0 gz1 gz2 gz3 gz4 H5
  obtain ⟨f0, f1, f2, f3, f4, fl, fz⟩ := ct_cells H6.out.blk_out
  have r1 := ownR_owns H6.out.drop.drop.head
  have r2 := ownR_owns H6.out.drop.drop.drop.head
  refine bodyPost_ret (v := ctAgg ⟨view, inst, seq, .slice ao2 rs.length cap2, .slice ao4 vs.length cap4, rs, vs⟩) (by simp [results, Tryz.results189, go_sem, f0, f1, f2, f3, f4]) rfl ⟨⟨view, inst, seq, .slice ao2 rs.length cap2, .slice ao4 vs.length cap4, rs, vs⟩, rfl, rfl, Upd.of_below H6.out.below, owns_reads r2, owns_reads r1, ?_, ?_⟩
  · exact (H6.out.drop.drop.drop.all _ List.mem_cons_self).2
  · exact (H6.out.drop.drop.all _ List.mem_cons_self).2

end Go.Proofs.YtannckelmojkoaaGreat

/- Ledgers of the program: entries, service, replies. -/
namespace Go.Proofs.YtannckelmojkoaaGreat
open Go.RowKit Go.Heap

structure En where
  rq : Rq
  res : Int
deriving DecidableEq
def enCells (e : En) : List Value := [.int .i64 e.rq.client, .int .i64 e.rq.time, .int .i64 e.rq.kind, .int .i64 e.rq.key, .int .i64 e.rq.val, .int .i64 e.rq.sl, .int .i64 e.res]
abbrev ensCells (l : List En) : List Value := l.flatMap enCells
def scCells (c : Bool × Int) : List Value := [.bool c.1, .int .i64 c.2]
abbrev stCells (l : List (Bool × Int)) : List Value := l.flatMap scCells
abbrev st0 : List (Bool × Int) := List.replicate 64 (false, 0)
theorem Tryz.zst : Tryz.zeroCells192.toList = stCells st0 := by kernel_rfl

structure Lg where
  p : Nat
  s : Nat
  c : Nat
  g : Nat
  cap : Nat
  v : Value
  clients : Int
  es : List En
  st : List (Bool × Int)
  rp : List (Int × Int)
abbrev lgO (clients : Int) (v : Value) (s c : Nat) : Obj := .cells #[.int .i64 clients, v, .pointer (some ⟨s, 0, none⟩), .pointer (some ⟨c, 0, none⟩)] 184 (0, 0)
abbrev chO (g n cap : Nat) : Obj := .cells #[.slice (some ⟨g, 0, none⟩) n cap] 289 (0, 0)
abbrev enR (v : Value) (es : List En) : Res := ownR 106 7 v es.length (ensCells es)
abbrev stR (s : Nat) (st : List (Bool × Int)) : Res := segR s 192 (stCells st)
abbrev rpR (g : Nat) (l : List (Int × Int)) : Res := segR g 286 (l.flatMap rpCells)
abbrev lgL (x : Lg) : List Res := [blk x.p (lgO x.clients x.v x.s x.c), enR x.v x.es, stR x.s x.st, blk x.c (chO x.g x.rp.length x.cap), rpR x.g x.rp]
structure LgOk (x : Lg) : Prop where
  st : x.st.length = 64
  rp1 : 1 ≤ x.rp.length
  rp4 : x.rp.length ≤ 4
  cap : x.rp.length ≤ x.cap ∧ x.cap ≤ maxLen
  es : x.es.length ≤ 100000
/-- What a ledger says. -/
structure Lp where
  clients : Int
  es : List En
  st : List (Bool × Int)
  rp : List (Int × Int)
def Lg.lp (x : Lg) : Lp := ⟨x.clients, x.es, x.st, x.rp⟩
def newL (n : Nat) : Lp := ⟨n, [], st0, List.replicate n (0, 0)⟩

section
variable {B : Nat} {w0 W W' : World} {ss : List Res} {x : Lg}

set_option maxHeartbeats 400000 in
theorem ledger_new (n : Nat) (h1 : 1 ≤ n) (h4 : n ≤ 4) (h : Own B w0 W ss) :
    Calls Tryz.prog 86 #[.int .i64 n] W fun e w' => ∃ x : Lg, e = .returned (.tuple #[.pointer (some ⟨x.p, 0, none⟩), .int .i64 0]) ∧ LgOk x ∧ x.lp = newL n ∧ Own B w0 w' (lgL x ++ ss) := by
  have HC := Lib.hid (cache_new n h1 h4 h)
  clear h
  go_enter Tryz.func86, Tryz.ntmps86
  go_wp2_with fail
  refine HC.out.mono ?_
  rintro e w1 ⟨p, g, rfl, ho⟩
  have HS := Lib.hid (store_new ho)
  clear ho HC
  go_wp2_with fail
  refine HS.out.mono ?_
  rintro e w2 ⟨s, rfl, ho⟩
  have H2 := Lib.hid (own_toSeg ho Tryz.zst)
  clear ho HS
  go_wp2_with fail
  go_ret2
  have h3 := ((H2.out.row0 (E := 106) (sz := 7))).boxAt (lgO n (.slice none 0 0) s p) rfl
  refine ⟨⟨w2.heap.size, s, p, g, n, .slice none 0 0, n, [], st0, List.replicate n (0, 0)⟩, rfl, ⟨by simp, by simpa using h1, by simpa using h4, ⟨by simp, by show n ≤ maxLen; unfold maxLen; omega⟩, by simp⟩, rfl, ?_⟩
  exact h3

end
end Go.Proofs.YtannckelmojkoaaGreat

/- Logs: what the service says of them, whether they agree, are once, kept, given. No program is looked at. -/
namespace Go.Proofs.YtannckelmojkoaaGreat

/-! ### The service, requests one by one -/

def sumV (l : List Int) : Int := l.foldl (· + ·) 0
/-- What an operation tells, and what the keys have then. -/
def applyR (vs : List Int) (r : Rq) : Int × List Int :=
  if r.key < 0 ∨ 64 ≤ r.key ∨ r.val ≤ -2147483648 ∨ 2147483648 ≤ r.val then (0, vs)
  else if r.kind = 1 then (vs.getD r.key.toNat 0, vs.set r.key.toNat r.val)
  else if r.kind = 2 then (vs.getD r.key.toNat 0, vs)
  else if r.kind = 3 then
    if vs.getD r.key.toNat 0 + r.val ≤ -2147483648 ∨ 2147483648 ≤ vs.getD r.key.toNat 0 + r.val then (vs.getD r.key.toNat 0, vs)
    else (vs.getD r.key.toNat 0 + r.val, vs.set r.key.toNat (vs.getD r.key.toNat 0 + r.val))
  else if r.kind = 4 then (vs.getD r.key.toNat 0, vs.set r.key.toNat 0)
  else if r.kind = 5 then (sumV vs, vs)
  else (0, vs)

/-- Values of a size that may be. -/
def VsOk (vs : List Int) : Prop := vs.length = 64 ∧ ∀ v ∈ vs, -2147483648 < v ∧ v < 2147483648

theorem VsOk.at {vs : List Int} (h : VsOk vs) (k : Nat) : -2147483648 < vs.getD k 0 ∧ vs.getD k 0 < 2147483648 := by
  rw [List.getD_eq_getElem?_getD]
  cases hk : vs[k]? with
  | none => simp
  | some v => simpa using h.2 v (List.mem_of_getElem? hk)

theorem VsOk.put {vs : List Int} (h : VsOk vs) (k : Nat) {v : Int} (h1 : -2147483648 < v) (h2 : v < 2147483648) : VsOk (vs.set k v) := by
  refine ⟨by simpa using h.1, fun u hu => ?_⟩
  rcases List.mem_or_eq_of_mem_set hu with hu | rfl
  · exact h.2 u hu
  · exact ⟨h1, h2⟩

/-- Values, and each client's last time. -/
structure Sv where
  vs : List Int
  tm : Nat → Int
def Sv.new : Sv := ⟨List.replicate 64 0, fun _ => 0⟩
def upT (t : Nat → Int) (k : Nat) (v : Int) : Nat → Int := fun j => if j = k then v else t j
/-- A request: its result, if it is executed; what is then. -/
def stepR (n : Int) (s : Sv) (r : Rq) : Option Int × Sv :=
  if r.client < 0 ∨ n ≤ r.client ∨ r.time ≤ s.tm r.client.toNat then (none, s)
  else (some (applyR s.vs r).1, ⟨(applyR s.vs r).2, upT s.tm r.client.toNat r.time⟩)
/-- What is behind a log. -/
def behind (n : Int) : Sv → List En → Sv
  | s, [] => s
  | s, e :: es => behind n (stepR n s e.rq).2 es

/-! ### Once: times rise -/

def OnceP (l : List En) : Prop := l.Pairwise fun f e => ¬ (f.rq.client = e.rq.client ∧ e.rq.time ≤ f.rq.time)
instance (l : List En) : Decidable (OnceP l) := by unfold OnceP; exact inferInstance

/-! ### Is one the beginning of the other one? -/

/-! ### Kept -/

/-- A log with the result of the i-th turned. -/
def turned (l : List En) (i : Nat) (e : En) : List En := l.take i ++ e :: l.drop (i + 1)

/-! ### Given -/

/-! ### A log that is turned does not follow -/

/-! ### The states of a run -/

/-! ### What was accepted in another order -/

end Go.Proofs.YtannckelmojkoaaGreat

/- Clones of what is new: clocks, tables, votes, guards, meters. -/
namespace Go.Proofs.YtannckelmojkoaaGreat
open Go.RowKit Go.Heap

section
variable {B : Nat} {w0 W W' : World} {ss : List Res}

end
end Go.Proofs.YtannckelmojkoaaGreat

/- Clones of what is new: guards, votes, meters. Copies of structs. -/
namespace Go.Proofs.YtannckelmojkoaaGreat
open Go.RowKit Go.Heap

section
variable {B : Nat} {w0 w W W' : World} {ss : List Res}

theorem news_at {g : Nat} {cs : Array Value} {T : TypeId} (h : w.heap[g]? = some (.cells cs T (0, 0))) : ∀ j u, cs.toList[j]? = some u → w.cell? ((⟨g, 0, none⟩ : Addr).add j) = some u := by
  intro j u hj
  have : (⟨g, 0, none⟩ : Addr).add j = ⟨g, j, none⟩ := by unfold Addr.add; split <;> simp_all
  rw [this, block_cell h]
  simpa using hj

theorem reads_blk {g n sz : Nat} {cs : Array Value} {T : TypeId} (h : w.heap[g]? = some (.cells cs T (0, 0))) (hs : cs.size = n * sz) (hn : n ≤ maxLen) : Reads w (.slice (some ⟨g, 0, none⟩) n n) sz n cs.toList :=
  ⟨_, _, rfl, Nat.le_refl _, hn, by simpa using hs, (fun e => by cases e), fun _ => ⟨g, 0, rfl, block_lt h, fun j _ => by rw [Nat.zero_add, block_cell h]; simp⟩⟩

theorem range_upd {b o : Nat} {cs : List Value} (hu : Upd [] w W) (h : w.rangeAt b o cs) : W.rangeAt b o cs := fun j v hj => cell_upd hu (h j v hj)
theorem range_blk {b : Nat} {cs : Array Value} {T : TypeId} (h : w.heap[b]? = some (.cells cs T (0, 0))) : w.rangeAt b 0 cs.toList := fun j v hj => by
  rw [Nat.zero_add, block_cell h]
  simpa using hj
end
end Go.Proofs.YtannckelmojkoaaGreat

/- Meters, clients, seals: made and cloned. -/
namespace Go.Proofs.YtannckelmojkoaaGreat
open Go.RowKit Go.Heap

section
variable {B : Nat} {w0 w W W' : World} {ss : List Res}

theorem cx_one : ∀ u ∈ (madeCells #[.complex .f64 0 0] 2).toList, u.oneCell' = true := by decide +kernel
theorem cx_size : (madeCells #[.complex .f64 0 0] 2).size = 2 * 1 := by simp [size_madeCells]

abbrev clockO : Obj := .cells #[.int .i64 0, .slice none 0 0] 236 (0, 0)

theorem clock_new2 (h : Own B w0 W ss) : Calls Tryz.prog 81 #[] W fun e w' => ∃ p, e = .returned (.pointer (some ⟨p, 0, none⟩)) ∧ Upd [] W w' ∧ Own B w0 w' (blk p clockO :: ss) := by
  have H := Lib.hid h
  clear h
  go_enter Tryz.func81, Tryz.ntmps81
  go_wp2
  go_ret
  exact ⟨_, rfl, (Upd.refl _ _).alloc _, H.out.box _⟩

end
end Go.Proofs.YtannckelmojkoaaGreat

/- inst: a place is written; Commits. -/
namespace Go.Proofs.YtannckelmojkoaaGreat
open Go.RowKit Go.Heap

section
variable {B : Nat} {w0 W W' : World} {ss rs : List Res} {x : Ins} {v1 v2 : Value} {l : List Rq} {vs : Vs}

/-- What a call leaves that tells a certificate, or none. -/
def CertP (B : Nat) (w0 W : World) (i : Nat) (r : Option Cp) (st : In) (ss : List Res) (e : Ending) (w' : World) : Prop :=
  ∃ c : Ct, e = .returned (.tuple #[ctAgg c, .bool r.isSome]) ∧ c.cp = r.getD noCp ∧ (c.rs.length ≤ 100000 ∧ c.vs.length ≤ 100000) ∧ Bat w' c.vb c.rs ∧ Vts w' c.vv c.vs ∧ (∀ k ∈ blkOf c.vb, W.heap.size ≤ k) ∧ (∀ k ∈ blkOf c.vv, W.heap.size ≤ k) ∧
    ∃ x' : Ins, x'.i = i ∧ x'.st = st ∧ Own B w0 w' (redR c.vv 2 c.vs.length (vsCells c.vs) :: redR c.vb 6 c.rs.length (rqsCells c.rs) :: instR x' :: ss)

def noCt : Ct := ⟨0, 0, 0, .slice none 0 0, .slice none 0 0, [], []⟩

theorem certP_none {st : In} {r : Option Cp} (h : Own B w0 W' (instR x :: ss)) (hr : r = none) (hst : st = x.st) : CertP B w0 W x.i r st ss (.returned (.tuple #[ctAgg noCt, .bool false])) W' := by
  subst hr
  exact ⟨noCt, rfl, rfl, by simp [noCt], Reads.nil _ _, Reads.nil _ _, by simp [noCt, blkOf], by simp [noCt, blkOf], x, rfl, hst.symm, (h.red (Reads.nil _ _) (by simp [blkIf])).red (Reads.nil _ _) (by simp [blkIf, noCt])⟩

end
end Go.Proofs.YtannckelmojkoaaGreat

/- inst: Commits. -/
namespace Go.Proofs.YtannckelmojkoaaGreat
open Go.RowKit Go.Heap

section
variable {B : Nat} {w0 W W' : World} {ss rs : List Res} {x : Ins}

abbrev zct : Obj := ctO 0 0 0 (.slice none 0 0) (.slice none 0 0)

theorem own_red2 {v u : Value} {l : List Rq} {vs : Vs} (h : Own B w0 W rs) (hu : Upd [] W W') (hb : Bat W' v l) (hv : Vts W' u vs) (n1 : ∀ k ∈ blkOf v, W.heap.size ≤ k) (n2 : ∀ k ∈ blkOf u, W.heap.size ≤ k) :
    Own B w0 W' (redR u 2 vs.length (vsCells vs) :: redR v 6 l.length (rqsCells l) :: rs) := by
  have h1 := (h.upd0 hu).red hb (fun k hk => h.fresh (n1 k (blkIf_sub hk)))
  refine h1.red hv (fun k hk hn => ?_)
  rcases (Ms_cons _ _ _).1 hn with hn | hn
  · simp [redR, imm] at hn
  · exact h.fresh (n2 k (blkIf_sub hk)) hn

theorem oi_cert (h : OwnI B w0 W x ss) (k : Nat) (hk : k < x.l.length) : (Bat W x.l[k].ct.vb x.l[k].ct.rs ∧ Vts W x.l[k].ct.vv x.l[k].ct.vs ∧ x.l[k].ct.rs.length ≤ 100000 ∧ x.l[k].ct.vs.length ≤ 100000) ∧
    Bat W x.l[k].dw.vb x.l[k].dw.rs ∧ Vts W x.l[k].dw.vv x.l[k].dw.vs ∧ x.l[k].dw.rs.length ≤ 100000 ∧ x.l[k].dw.vs.length ≤ 100000 := by
  obtain ⟨D, ⟨⟨_, h2⟩, _⟩, _, _⟩ := (h.all (certsR x) (by simp [insHd])).1
  obtain ⟨q1, q2⟩ := h2 x.l[k] (by simp)
  exact ⟨⟨q1.b.1, q1.v.1, q1.bn, q1.vn⟩, q2.b.1, q2.v.1, q2.bn, q2.vn⟩

theorem own_st5 {b : Nat} {a1 a2 a3 : Int} {a4 a5 : Value} (h : Own B w0 W (blk b (ctO a1 a2 a3 a4 a5) :: rs)) (view inst seq : Int) (vb vv : Value) :
    Own B w0 (((((W.setCell ⟨b, 0, none⟩ (.int .i64 view)).setCell ⟨b, 1, none⟩ (.int .i64 inst)).setCell ⟨b, 2, none⟩ (.int .i64 seq)).setCell ⟨b, 3, none⟩ vb).setCell ⟨b, 4, none⟩ vv) (blk b (ctO view inst seq vb vv) :: rs) :=
  ((((h.store 0 (.int .i64 view)).store 1 (.int .i64 inst)).store 2 (.int .i64 seq)).store 3 vb).store 4 vv

theorem upd_st5 (w : World) (b : Nat) (view inst seq : Int) (vb vv : Value) : Upd [b] w (((((w.setCell ⟨b, 0, none⟩ (.int .i64 view)).setCell ⟨b, 1, none⟩ (.int .i64 inst)).setCell ⟨b, 2, none⟩ (.int .i64 seq)).setCell ⟨b, 3, none⟩ vb).setCell ⟨b, 4, none⟩ vv) :=
  (((((Upd.refl _ _).setCell (.inl (by simp)) _).setCell (.inl (by simp)) _).setCell (.inl (by simp)) _).setCell (.inl (by simp)) _).setCell (.inl (by simp)) _

end
end Go.Proofs.YtannckelmojkoaaGreat
