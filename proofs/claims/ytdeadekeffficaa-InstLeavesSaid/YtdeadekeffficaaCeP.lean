/- Plain: the law InstCerts: one slot, prepared in view after view. -/
import Derived.Test.YtdeadekeffficaaGoP
namespace Go.Proofs.Ytdeadekeffficaa
open Go.RowKit Go.Heap

/-- The votes' nodes rise and are below n. -/
def Rises (vs : Vs) (n : Int) : Prop := vs.Pairwise (fun a b => a.1 < b.1) ∧ ∀ p ∈ vs, 0 ≤ p.1 ∧ p.1 < n

theorem picks_rise (b : List Rq) : ∀ (l : List Vt) (k : Nat), (picks b l k).Pairwise (fun a b => a.1 < b.1) ∧ ∀ p ∈ picks b l k, (k : Int) ≤ p.1 ∧ p.1 < (k : Int) + (l.length : Int)
  | [], k => by simp [picks]
  | t :: l, k => by
    obtain ⟨h1, h2⟩ := picks_rise b l (k + 1)
    rw [picks]
    split
    · refine ⟨List.pairwise_cons.2 ⟨fun p hp => ?_, h1⟩, fun p hp => ?_⟩
      · have := (h2 p hp).1
        show (k : Int) < p.1
        omega
      · rcases List.mem_cons.1 hp with rfl | hp
        · simp only [List.length_cons]; omega
        · have := h2 p hp
          simp only [List.length_cons] at this ⊢
          omega
    · refine ⟨h1, fun p hp => ?_⟩
      have := h2 p hp
      simp only [List.length_cons] at this ⊢
      omega

theorem picks_all (b : List Rq) : ∀ (l : List Vt) (k : Nat), (∀ t ∈ l, goodB b t = true) → (picks b l k).length = l.length
  | [], _, _ => rfl
  | t :: l, k, h => by
    rw [picks, if_pos (h t (by simp)), List.length_cons, picks_all b l (k + 1) (fun t ht => h t (by simp [ht])), List.length_cons]

/-- The first n have voted. -/
def qw (f : Nat) (t : Int) (b : List Rq) (n : Nat) : List Vt := (List.range (3 * f + 1)).map fun j => if j < n then ⟨true, t + j, b⟩ else noVt
theorem qw_len (f : Nat) (t : Int) (b : List Rq) (n : Nat) : (qw f t b n).length = 3 * f + 1 := by simp [qw]
theorem qw_zero (f : Nat) (t : Int) (b : List Rq) : qw f t b 0 = List.replicate (3 * f + 1) noVt := by simp [qw, List.map_const']
theorem qw_get (f : Nat) (t : Int) (b : List Rq) (n j : Nat) (hj : j < 3 * f + 1) : (qw f t b n)[j]? = some (if j < n then ⟨true, t + j, b⟩ else noVt) := by
  simp only [qw, List.getElem?_map, List.getElem?_range hj, Option.map_some]
theorem qw_set (f : Nat) (t : Int) (b : List Rq) (n : Nat) (_ : n < 3 * f + 1) : (qw f t b n).set n ⟨true, t + n, b⟩ = qw f t b (n + 1) := by
  apply List.ext_getElem?
  intro j
  by_cases hj : j < 3 * f + 1
  · by_cases e : n = j
    · subst e
      rw [List.getElem?_set_self (by rw [qw_len]; exact hj), qw_get f t b _ n hj, if_pos (by omega)]
    · rw [List.getElem?_set_ne e, qw_get f t b _ j hj, qw_get f t b _ j hj]
      by_cases h : j < n
      · rw [if_pos h, if_pos (by omega)]
      · rw [if_neg h, if_neg (by omega)]
  · rw [List.getElem?_eq_none (by simp [qw_len]; omega), List.getElem?_eq_none (by simp [qw_len]; omega)]
theorem qw_open (f : Nat) (t : Int) (b : List Rq) (n : Nat) (hn : n < 3 * f + 1) : openB (qw f t b n) n = true := by
  unfold openB
  rw [Int.toNat_natCast, qw_get f t b n n hn, if_neg (by omega)]
  simp [noVt]
theorem qw_good (f : Nat) (t : Int) (b : List Rq) : (picks b (qw f t b (3 * f + 1)) 0).length = 3 * f + 1 := by
  rw [picks_all, qw_len]
  intro x hx
  simp only [qw, List.mem_map, List.mem_range] at hx
  obtain ⟨j, hj, rfl⟩ := hx
  rw [if_pos hj]
  simp [goodB]

def qc (f : Nat) (t : Int) (b : List Rq) : Vs := (picks b (qw f t b (3 * f + 1)) 0).take (2 * f + 1)
theorem qc_len (f : Nat) (t : Int) (b : List Rq) : (qc f t b).length = 2 * f + 1 := by
  unfold qc
  rw [List.length_take, qw_good]
  omega
theorem qc_enough (f : Nat) (t : Int) (b : List Rq) : enoughS (qw f t b (3 * f + 1)) b (2 * f + 1) = some (qc f t b) := by
  unfold enoughS
  rw [if_neg (by rw [qw_good]; omega)]
  rfl
theorem qc_rise (f : Nat) (t : Int) (b : List Rq) : Rises (qc f t b) (3 * (f : Int) + 1) := by
  obtain ⟨h1, h2⟩ := picks_rise b (qw f t b (3 * f + 1)) 0
  refine ⟨h1.sublist (List.take_sublist _ _), fun p hp => ?_⟩
  have := h2 p (List.mem_of_mem_take hp)
  rw [qw_len] at this
  omega

/-! ### The law's states -/

def ePl (f : Nat) (o : Option Cp) : Pl := { emptyPl f with has := o.isSome, ct := o.getD noCp }
def cSl (f : Nat) (t : Int) (b : List Rq) (n : Nat) : Sl := ⟨true, b, qw f t b n, List.replicate (3 * f + 1) noVt⟩
def nPl (f : Nat) (o : Option Cp) (t : Int) (b : List Rq) (n : Nat) : Pl := { ePl f o with sl := cSl f t b n }
def cCp (f : Nat) (num v t : Int) (b : List Rq) : Cp := ⟨v, num, 2, b, qc f t b⟩
def cPl (f : Nat) (num v t : Int) (b : List Rq) : Pl := ⟨cSl f t b (3 * f + 1), true, true, cCp f num v t b, false, noCp⟩
def cs (f : Nat) (num v : Int) (on : Bool) (p : Pl) : In := ⟨f, num, 4, v, on, (List.range 16).map fun j => if j = 1 then p else emptyPl f⟩

section
variable {f : Nat} {num v : Int} {on : Bool} {p : Pl}

theorem cs_new (f : Nat) (num : Int) : newI f num 4 = cs f num 0 true (ePl f none) := by
  simp only [newI, cs, In.mk.injEq, true_and]
  apply List.ext_getElem?
  intro j
  rw [List.getElem?_replicate, List.getElem?_map]
  by_cases hj : j < 16
  · rw [if_pos hj, List.getElem?_range hj]
    simp only [Option.map_some]
    split <;> rfl
  · rw [if_neg hj, List.getElem?_eq_none (by simpa using hj)]
    rfl
theorem cs_pl (f : Nat) (num v : Int) (on : Bool) (p : Pl) : plAt (cs f num v on p) 2 = some p := rfl
theorem cs_upd (f : Nat) (num v : Int) (on : Bool) (p : Pl) (g : Pl → Pl) : (cs f num v on p).upd 1 g = cs f num v on (g p) := by
  simp only [In.upd, cs, In.mk.injEq, true_and]
  apply List.ext_getElem?
  intro j
  simp only [List.getElem?_modify, List.getElem?_map]
  by_cases hj : j < 16
  · rw [List.getElem?_range hj]
    simp only [Option.map_some]
    by_cases e : 1 = j
    · subst e
      simp
    · simp only [if_neg e, if_neg (show ¬ j = 1 by omega)]
      rfl
  · rw [List.getElem?_eq_none (by simpa using hj)]
    rfl
theorem cs_done (f : Nat) (num v : Int) (on : Bool) (p : Pl) : doneI (cs f num v on p) = 0 := rfl

theorem cs_pre (f : Nat) (num v : Int) (o : Option Cp) (t : Int) (b : List Rq) : preB (cs f num v true (ePl f o)) 2 = true ∧ preI (cs f num v true (ePl f o)) 2 b = cs f num v true (nPl f o t b 0) := by
  have hb : preB (cs f num v true (ePl f o)) 2 = true := rfl
  refine ⟨hb, ?_⟩
  simp only [preI, show idx 2 = some 1 from rfl]
  rw [if_pos hb, cs_upd]
  congr 1
  simp only [nPl, cSl, qw_zero]
  rfl

theorem cs_vote (f : Nat) (num v : Int) (o : Option Cp) (t : Int) (b : List Rq) (n : Nat) (hn : n < 3 * f + 1) : voteI (cs f num v true (nPl f o t b n)) 4 2 n (t + n) b = cs f num v true (nPl f o t b (n + 1)) := by
  have hc : canVote (cSl f t b n) 4 n = true := qw_open f t b n hn
  simp only [voteI, show idx 2 = some 1 from rfl]
  rw [if_pos (by rfl), cs_upd]
  congr 1
  simp only [nPl]
  have : voteS (cSl f t b n) 4 n (t + n) b = cSl f t b (n + 1) := by
    unfold voteS
    rw [if_pos hc, if_pos rfl]
    simp only [cSl, Sl.mk.injEq, true_and, and_true, Int.toNat_natCast]
    exact qw_set f t b n hn
  rw [this]

theorem cs_prep (f : Nat) (num v : Int) (o : Option Cp) (t : Int) (b : List Rq) : prepI (cs f num v true (nPl f o t b (3 * f + 1))) 2 = some (cCp f num v t b) ∧ preparedI (cs f num v true (nPl f o t b (3 * f + 1))) 2 = cs f num v true (cPl f num v t b) := by
  have hp : prepI (cs f num v true (nPl f o t b (3 * f + 1))) 2 = some (cCp f num v t b) := by
    simp only [prepI, cs_pl]
    simp only [show (cs f num v true (nPl f o t b (3 * f + 1))).on = true from rfl, show (nPl f o t b (3 * f + 1)).told = false from rfl, Bool.not_false, Bool.and_self, if_true]
    rw [show (cs f num v true (nPl f o t b (3 * f + 1))).f = f from rfl, show preparedS f (nPl f o t b (3 * f + 1)).sl = enoughS (qw f t b (3 * f + 1)) b (2 * f + 1) from rfl, qc_enough]
    rfl
  refine ⟨hp, ?_⟩
  simp only [preparedI, show idx 2 = some 1 from rfl, hp]
  rw [cs_upd]
  rfl

theorem cs_certs (f : Nat) (num v t : Int) (b : List Rq) : certsI (cs f num v true (cPl f num v t b)) = [cCp f num v t b] := rfl

theorem cs_leave (f : Nat) (num v t v' : Int) (b : List Rq) (h1 : v < v') (h2 : v' ≤ 12) : leaveB (cs f num v true (cPl f num v t b)) v' = true ∧ leaveI (cs f num v true (cPl f num v t b)) v' = cs f num v' false (ePl f (some (cCp f num v t b))) := by
  have hb : leaveB (cs f num v true (cPl f num v t b)) v' = true := by
    show (decide (v < v') && decide (v' ≤ 12)) = true
    rw [decide_eq_true h1, decide_eq_true h2]; rfl
  refine ⟨hb, ?_⟩
  unfold leaveI
  rw [if_pos hb]
  simp only [cs, In.mk.injEq, true_and, List.map_map]
  apply List.map_congr_left
  intro j _
  simp only [Function.comp]
  split <;> rfl
theorem cs_stay (f : Nat) (num v t v' : Int) (b : List Rq) (h1 : v' ≤ v) : leaveB (cs f num v true (cPl f num v t b)) v' = false := by
  show (decide (v < v') && decide (v' ≤ 12)) = false
  rw [decide_eq_false (by omega)]; rfl

end
end Go.Proofs.Ytdeadekeffficaa
