/- Plain: the law InstLeaves: one slot, done; views left, the next one installed. -/
import Derived.Test.YtdeadekeffficaaGoP
namespace Go.Proofs.Ytdeadekeffficaa
open Go.RowKit Go.Heap

/-- The first slot is p; nothing else. -/
def ls (f : Nat) (v : Int) (on : Bool) (p : Pl) : In := ⟨f, 0, 4, v, on, (List.range 16).map fun j => if j = 0 then p else emptyPl f⟩
/-- Prepared and done in view 0. -/
def lk (f : Nat) (s : Sl) (told : Bool) : Pl := ⟨s, told, true, pCp f 0 1, true, pCp f 0 1⟩
def mL (f n m : Nat) : Sl := ⟨true, [rq 0 1], qv f 1 [rq 0 1] n, qv f 1 [rq 0 1] m⟩
def nL (f n m : Nat) : Pl := { emptyPl f with sl := mL f n m }
def tL (f : Nat) : Pl := { nL f (2 * f + 1) (2 * f + 1) with told := true, has := true, ct := pCp f 0 1 }
def iSl (f : Nat) : Sl := { emptySl f with has := true, batch := [rq 0 1] }

theorem ls_new (f : Nat) : newI f 0 4 = ls f 0 true (emptyPl f) := by
  simp only [newI, ls, In.mk.injEq, true_and]
  apply List.ext_getElem?
  intro j
  rw [List.getElem?_replicate, List.getElem?_map]
  by_cases hj : j < 16
  · rw [if_pos hj, List.getElem?_range hj]
    simp only [Option.map_some]
    split <;> rfl
  · rw [if_neg hj, List.getElem?_eq_none (by simpa using hj)]
    rfl
theorem ls_pl (f : Nat) (v : Int) (on : Bool) (p : Pl) : plAt (ls f v on p) 1 = some p := rfl
theorem ls_upd (f : Nat) (v : Int) (on : Bool) (p : Pl) (g : Pl → Pl) : (ls f v on p).upd 0 g = ls f v on (g p) := by
  simp only [In.upd, ls, In.mk.injEq, true_and]
  apply List.ext_getElem?
  intro j
  simp only [List.getElem?_modify, List.getElem?_map]
  by_cases hj : j < 16
  · rw [List.getElem?_range hj]
    simp only [Option.map_some]
    by_cases e : 0 = j
    · subst e
      simp
    · simp only [if_neg e, if_neg (show ¬ j = 0 by omega)]
      rfl
  · rw [List.getElem?_eq_none (by simpa using hj)]
    rfl

theorem ls_pre (f : Nat) : preI (ls f 0 true (emptyPl f)) 1 [rq 0 1] = ls f 0 true (nL f 0 0) := by
  have hb : preB (ls f 0 true (emptyPl f)) 1 = true := rfl
  simp only [preI, show idx 1 = some 0 from rfl]
  rw [if_pos hb, ls_upd]
  congr 1
theorem ls_vote4 (f n : Nat) (hn : n < 3 * f + 1) : voteI (ls f 0 true (nL f n n)) 4 1 n 1 [rq 0 1] = ls f 0 true (nL f (n + 1) n) := by
  have hc : canVote (mL f n n) 4 n = true := qv_open f 1 _ n hn
  simp only [voteI, show idx 1 = some 0 from rfl]
  rw [if_pos (by rfl), ls_upd]
  congr 1
  simp only [nL]
  have : voteS (mL f n n) 4 n 1 [rq 0 1] = mL f (n + 1) n := by
    unfold voteS
    rw [if_pos hc, if_pos rfl]
    simp only [mL, Sl.mk.injEq, true_and, and_true, Int.toNat_natCast]
    exact qv_set f 1 _ n hn
  rw [this]
theorem ls_vote5 (f n : Nat) (hn : n < 3 * f + 1) : voteI (ls f 0 true (nL f (n + 1) n)) 5 1 n 1 [rq 0 1] = ls f 0 true (nL f (n + 1) (n + 1)) := by
  have hc : canVote (mL f (n + 1) n) 5 n = true := qv_open f 1 _ n hn
  simp only [voteI, show idx 1 = some 0 from rfl]
  rw [if_pos (by rfl), ls_upd]
  congr 1
  simp only [nL]
  have : voteS (mL f (n + 1) n) 5 n 1 [rq 0 1] = mL f (n + 1) (n + 1) := by
    unfold voteS
    rw [if_pos hc, if_neg (by omega)]
    simp only [mL, Sl.mk.injEq, true_and, Int.toNat_natCast]
    exact qv_set f 1 _ n hn
  rw [this]

theorem ls_prep (f : Nat) : prepI (ls f 0 true (nL f (2 * f + 1) (2 * f + 1))) 1 = some (pCp f 0 1) ∧ preparedI (ls f 0 true (nL f (2 * f + 1) (2 * f + 1))) 1 = ls f 0 true (tL f) := by
  have hp : prepI (ls f 0 true (nL f (2 * f + 1) (2 * f + 1))) 1 = some (pCp f 0 1) := by
    simp only [prepI, ls_pl]
    simp only [show (ls f 0 true (nL f (2 * f + 1) (2 * f + 1))).on = true from rfl, show (nL f (2 * f + 1) (2 * f + 1)).told = false from rfl, Bool.not_false, Bool.and_self, if_true]
    rw [show (ls f 0 true (nL f (2 * f + 1) (2 * f + 1))).f = f from rfl, show preparedS f (nL f (2 * f + 1) (2 * f + 1)).sl = enoughS (qv f 1 [rq 0 1] (2 * f + 1)) [rq 0 1] (2 * f + 1) from rfl, qv_full]
    rfl
  refine ⟨hp, ?_⟩
  simp only [preparedI, show idx 1 = some 0 from rfl, hp]
  rw [ls_upd]
  rfl
theorem ls_comm (f : Nat) : commI (ls f 0 true (tL f)) 1 = some (pCp f 0 1) ∧ commitsI (ls f 0 true (tL f)) 1 = ls f 0 true (lk f (mL f (2 * f + 1) (2 * f + 1)) true) := by
  have hp : commI (ls f 0 true (tL f)) 1 = some (pCp f 0 1) := by
    simp only [commI, ls_pl]
    rw [if_neg (by simp [tL, nL, emptyPl]), show (ls f 0 true (tL f)).f = f from rfl, show committedS f (tL f).sl = committedL (qv f 1 [rq 0 1] (2 * f + 1)) (2 * f + 1) (qv f 1 [rq 0 1] (2 * f + 1)) from rfl, qv_comm]
    rfl
  refine ⟨hp, ?_⟩
  simp only [commitsI, show idx 1 = some 0 from rfl, hp]
  rw [ls_upd]
  rfl

section
variable (f : Nat) (v v' : Int) (on : Bool) (s : Sl) (told : Bool)

theorem ls_leave (h1 : v < v') (h2 : v' ≤ 12) : leaveB (ls f v on (lk f s told)) v' = true ∧ leaveI (ls f v on (lk f s told)) v' = ls f v' false (lk f (emptySl f) false) := by
  have hb : leaveB (ls f v on (lk f s told)) v' = true := by
    show (decide (v < v') && decide (v' ≤ 12)) = true
    rw [decide_eq_true h1, decide_eq_true h2]; rfl
  refine ⟨hb, ?_⟩
  unfold leaveI
  rw [if_pos hb]
  simp only [ls, In.mk.injEq, true_and, List.map_map]
  apply List.map_congr_left
  intro j _
  simp only [Function.comp]
  split <;> rfl
theorem ls_stay (h : ¬ (v < v' ∧ v' ≤ 12)) : leaveB (ls f v on (lk f s told)) v' = false ∧ leaveI (ls f v on (lk f s told)) v' = ls f v on (lk f s told) := by
  have hb : leaveB (ls f v on (lk f s told)) v' = false := by
    show (decide (v < v') && decide (v' ≤ 12)) = false
    by_cases h1 : v < v'
    · rw [decide_eq_false (show ¬ v' ≤ 12 from fun e => h ⟨h1, e⟩), Bool.and_false]
    · rw [decide_eq_false h1, Bool.false_and]
  exact ⟨hb, by unfold leaveI; rw [if_neg (by rw [hb]; simp)]⟩

theorem ls_next0 : nextI (ls f v on (lk f (emptySl f) told)) = 1 := by
  unfold nextI
  rw [lastHas_of (ls f v on (lk f (emptySl f) told)).l 0 (by omega) (fun j hj _ => ?_) (fun j hj e => by omega)]
  simp only [ls, List.getElem_map, List.getElem_range]
  split <;> rfl
theorem ls_next1 : nextI (ls f v on (lk f (iSl f) told)) = 2 := by
  unfold nextI
  rw [lastHas_of (ls f v on (lk f (iSl f) told)).l 1 (by simp [ls]) (fun j hj hk => ?_) (fun j hj e => ?_)]
  · simp only [ls, List.getElem_map, List.getElem_range]
    rw [if_neg (by omega)]; rfl
  · have : j = 0 := by omega
    subst this
    rfl
theorem ls_vote (p : Pl) : voteB (ls f v false p) 4 1 0 = false := rfl
theorem ls_voteI (p : Pl) : voteI (ls f v false p) 4 1 0 1 [rq 0 1] = ls f v false p := rfl
theorem ls_pre2 (p : Pl) : preB (ls f v false p) 2 = false := rfl
theorem ls_pre2I (p : Pl) : preI (ls f v false p) 2 [rq 0 1] = ls f v false p := rfl
theorem ls_inst : instB (ls f v false (lk f (emptySl f) false)) 1 = true := rfl
theorem ls_instI : installI (ls f v false (lk f (emptySl f) false)) [[rq 0 1]] = ls f v true (lk f (iSl f) false) := by
  unfold installI
  rw [if_pos (by rfl)]
  rfl
theorem ls_pre1 : preB (ls f v true (lk f (iSl f) false)) 1 = false := by
  simp only [preB, ls_pl]
  show (_ && _ && !true) = false
  rw [Bool.not_true, Bool.and_false]
theorem ls_pre1I : preI (ls f v true (lk f (iSl f) false)) 1 [rq 0 1] = ls f v true (lk f (iSl f) false) := by
  simp only [preI, show idx 1 = some 0 from rfl]
  rw [if_neg (by rw [ls_pre1]; simp)]
theorem ls_done : doneI (ls f v on (lk f s told)) = 1 := rfl
theorem ls_certs : certsI (ls f v on (lk f s told)) = [pCp f 0 1] := rfl

end
end Go.Proofs.Ytdeadekeffficaa
