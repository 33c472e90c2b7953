/- InstGoes: the plain laws. -/
import Derived.Test.YtdeadekeffficaaInQ
namespace Go.Proofs.Ytdeadekeffficaa
open Go.RowKit Go.Heap

/-- The first n nodes have voted for b. -/
def qv (f : Nat) (s : Int) (b : List Rq) (n : Nat) : List Vt := List.replicate n ⟨true, s, b⟩ ++ List.replicate (3 * f + 1 - n) noVt

theorem qv_zero (f : Nat) (s : Int) (b : List Rq) : qv f s b 0 = List.replicate (3 * f + 1) noVt := by simp [qv]

theorem picks_none_vt (b : List Rq) : ∀ (n k : Nat), picks b (List.replicate n noVt) k = []
  | 0, _ => rfl
  | n + 1, k => by
    rw [List.replicate_succ, picks, if_neg (by simp [goodB, noVt])]
    exact picks_none_vt b n (k + 1)

theorem picks_len (s : Int) (b : List Rq) (m : Nat) : ∀ (n k : Nat), (picks b (List.replicate n ⟨true, s, b⟩ ++ List.replicate m noVt) k).length = n
  | 0, k => by simp [picks_none_vt]
  | n + 1, k => by
    rw [List.replicate_succ, List.cons_append, picks, if_pos (by simp [goodB]), List.length_cons, picks_len s b m n (k + 1)]

theorem qv_set (f : Nat) (s : Int) (b : List Rq) (n : Nat) (hn : n < 3 * f + 1) : (qv f s b n).set n ⟨true, s, b⟩ = qv f s b (n + 1) := by
  unfold qv
  rw [List.set_append_right _ _ (by simp), List.length_replicate, Nat.sub_self, show 3 * f + 1 - n = (3 * f + 1 - (n + 1)) + 1 by omega, List.replicate_succ, List.set_cons_zero, List.replicate_succ', List.append_assoc]
  rfl

theorem qv_open (f : Nat) (s : Int) (b : List Rq) (n : Nat) (hn : n < 3 * f + 1) : openB (qv f s b n) n = true := by
  have : (qv f s b n)[n]? = some noVt := by
    unfold qv
    rw [List.getElem?_append_right (by simp), List.length_replicate, Nat.sub_self, show 3 * f + 1 - n = (3 * f + 1 - (n + 1)) + 1 by omega, List.replicate_succ]
    rfl
  simp [openB, this, noVt]

theorem qv_less (f : Nat) (s : Int) (b : List Rq) (n : Nat) (hn : n < 2 * f + 1) : enoughS (qv f s b n) b (2 * f + 1) = none := by
  unfold enoughS
  rw [if_pos (by unfold qv; rw [picks_len]; exact hn)]

def qvs (f : Nat) (s : Int) (b : List Rq) : Vs := (picks b (qv f s b (2 * f + 1)) 0).take (2 * f + 1)
theorem qvs_len (f : Nat) (s : Int) (b : List Rq) : (qvs f s b).length = 2 * f + 1 := by
  unfold qvs qv
  rw [List.length_take, picks_len]
  omega
theorem qv_full (f : Nat) (s : Int) (b : List Rq) : enoughS (qv f s b (2 * f + 1)) b (2 * f + 1) = some (qvs f s b) := by
  unfold enoughS
  rw [if_neg (by unfold qv; rw [picks_len]; omega)]
  rfl

theorem qv_comm (f : Nat) (s : Int) (b : List Rq) : committedL (qv f s b (2 * f + 1)) (2 * f + 1) (qv f s b (2 * f + 1)) = some (b, qvs f s b) := by
  have e : qv f s b (2 * f + 1) = ⟨true, s, b⟩ :: (List.replicate (2 * f) ⟨true, s, b⟩ ++ List.replicate (3 * f + 1 - (2 * f + 1)) noVt) := by
    unfold qv; rw [List.replicate_succ, List.cons_append]
  conv => lhs; arg 3; rw [e]
  rw [committedL, if_pos rfl]
  simp only [qv_full]

/-- A slot in which n nodes have voted. -/
def mSl (f k n m : Nat) : Sl := ⟨true, [rq 0 k], qv f 1 [rq 0 k] n, qv f 2 [rq 0 k] m⟩
def mPl (f k n m : Nat) : Pl := { emptyPl f with sl := mSl f k n m }
def pCp (f : Nat) (v : Int) (k : Nat) : Cp := ⟨v, 0, k, [rq 0 k], qvs f 1 [rq 0 k]⟩
def dCp (f : Nat) (v : Int) (k : Nat) : Cp := ⟨v, 0, k, [rq 0 k], qvs f 2 [rq 0 k]⟩
def tPl (f : Nat) (v : Int) (k : Nat) : Pl := { mPl f k (2 * f + 1) (2 * f + 1) with told := true, has := true, ct := pCp f v k }
def fPl (f : Nat) (v : Int) (k : Nat) : Pl := { tPl f v k with done := true, dw := dCp f v k }
/-- Those up to d went their way; the next one is p. -/
def gs (f : Nat) (v : Int) (d : Nat) (p : Pl) : In := ⟨f, 0, 1, v, true, (List.range 16).map fun j => if j < d then fPl f v (j + 1) else if j = d then p else emptyPl f⟩
abbrev gz (f : Nat) (v : Int) (d : Nat) : In := gs f v d (emptyPl f)

theorem gs_at (f : Nat) (v : Int) (d : Nat) (p : Pl) (hd : d < 16) : (gs f v d p).l[d]? = some p := by
  simp only [gs, List.getElem?_map, List.getElem?_range hd, Option.map_some]
  rw [if_neg (by omega), if_pos trivial]

theorem gs_upd (f : Nat) (v : Int) (d : Nat) (p : Pl) (g : Pl → Pl) : (gs f v d p).upd d g = gs f v d (g p) := by
  simp only [In.upd, gs, In.mk.injEq, true_and]
  apply List.ext_getElem?
  intro j
  simp only [List.getElem?_modify, List.getElem?_map]
  by_cases hj : j < 16
  · rw [List.getElem?_range hj]
    simp only [Option.map_some]
    by_cases e : d = j
    · subst e
      simp only [if_true, if_neg (show ¬ d < d by omega)]
      rfl
    · simp only [if_neg e, if_neg (show ¬ j = d by omega)]
      rfl
  · rw [List.getElem?_eq_none (by simpa using hj)]
    rfl

theorem gs_next (f : Nat) (v : Int) (d : Nat) : gs f v d (fPl f v (d + 1)) = gz f v (d + 1) := by
  simp only [gs, In.mk.injEq, true_and]
  apply List.map_congr_left
  intro j _
  by_cases h1 : j < d
  · rw [if_pos h1, if_pos (by omega)]
  · by_cases h2 : j = d
    · subst h2
      rw [if_neg (by omega), if_pos rfl, if_pos (by omega)]
    · rw [if_neg h1, if_neg h2, if_neg (by omega)]
      split <;> rfl

theorem gs_pl (f : Nat) (v : Int) (d : Nat) (p : Pl) (hd : d < 16) : plAt (gs f v d p) ((d : Int) + 1) = some p := by
  have hi : idx ((d : Int) + 1) = some d := by rw [idx_of (by omega) (by omega)]; congr 1
  rw [plAt, hi, Option.bind_some, gs_at f v d p hd]
theorem gs_idx (d : Nat) (hd : d < 16) : idx ((d : Int) + 1) = some d := by rw [idx_of (by omega) (by omega)]; congr 1

theorem gs_done (f : Nat) (v : Int) (d : Nat) (p : Pl) (hd : d ≤ 16) (hp : p.done = false) : doneI (gs f v d p) = d := by
  refine take_while _ d (fun j hj hjn => ?_) (by simp [gs]; omega) (fun hj => ?_)
  · simp only [gs, List.getElem_map, List.getElem_range]
    rw [if_pos hjn]; rfl
  · simp only [gs, List.getElem_map, List.getElem_range]
    rw [if_neg (by omega), if_pos trivial]; exact hp

theorem gz_pre2 (f : Nat) (v : Int) (d : Nat) (hd : d < 16) : preB (gz f v d) ((d : Int) + 1 + 1) = false := by
  unfold preB
  cases plAt (gz f v d) ((d : Int) + 1 + 1) with
  | none => rfl
  | some p =>
    simp only []
    rw [gs_done f v d _ (by omega) rfl]
    rw [show decide ((d : Int) + 1 + 1 ≤ (d : Int) + (gz f v d).ahead) = false by simp [gs]; omega]
    simp

theorem gz_pre (f : Nat) (v : Int) (d : Nat) (hd : d < 16) : preB (gz f v d) ((d : Int) + 1) = true ∧ preI (gz f v d) ((d : Int) + 1) [rq 0 ((d : Int) + 1)] = gs f v d (mPl f (d + 1) 0 0) := by
  have hb : preB (gz f v d) ((d : Int) + 1) = true := by
    simp only [preB, gs_pl f v d _ hd]
    rw [gs_done f v d _ (by omega) rfl]
    simp [gs, emptyPl, emptySl]
  refine ⟨hb, ?_⟩
  simp only [preI, gs_idx d hd]
  rw [if_pos hb, gs_upd]
  congr 1

theorem gs_nextI (f : Nat) (v : Int) (d : Nat) (p : Pl) (hd : d < 16) (hp : p.sl.has = true) : nextI (gs f v d p) = d + 2 := by
  unfold nextI
  rw [lastHas_of (gs f v d p).l (d + 1) (by simp [gs]; omega) (fun j hj hk => ?_) (fun j hj e => ?_)]
  · simp only [gs, List.getElem_map, List.getElem_range]
    rw [if_neg (by omega), if_neg (by omega)]; rfl
  · have e : j = d := by omega
    subst e
    simp only [gs, List.getElem_map, List.getElem_range]
    rw [if_neg (by omega), if_pos trivial]; exact hp

theorem gs_prep (f : Nat) (v : Int) (d n : Nat) (hd : d < 16) (hn : n < 2 * f + 1) : prepI (gs f v d (mPl f (d + 1) n n)) ((d : Int) + 1) = none := by
  simp only [prepI, gs_pl f v d _ hd]
  simp only [show (gs f v d (mPl f (d + 1) n n)).on = true from rfl, show (mPl f (d + 1) n n).told = false from rfl, Bool.not_false, Bool.and_self, if_true]
  rw [show (gs f v d (mPl f (d + 1) n n)).f = f from rfl, show preparedS f (mPl f (d + 1) n n).sl = enoughS (qv f 1 [rq 0 ((d + 1 : Nat) : Int)] n) [rq 0 ((d + 1 : Nat) : Int)] (2 * f + 1) from rfl, qv_less f 1 _ n hn]
  rfl

theorem gs_vote4 (f : Nat) (v : Int) (d n : Nat) (hd : d < 16) (hn : n < 3 * f + 1) : voteB (gs f v d (mPl f (d + 1) n n)) 4 ((d : Int) + 1) n = true ∧ voteI (gs f v d (mPl f (d + 1) n n)) 4 ((d : Int) + 1) n 1 [rq 0 ((d : Int) + 1)] = gs f v d (mPl f (d + 1) (n + 1) n) := by
  have hc : canVote (mSl f (d + 1) n n) 4 n = true := qv_open f 1 _ n hn
  refine ⟨?_, ?_⟩
  · simp only [voteB, gs_pl f v d _ hd]
    exact hc
  · simp only [voteI, gs_idx d hd]
    rw [if_pos (by rfl), gs_upd]
    congr 1
    simp only [mPl]
    have : voteS (mSl f (d + 1) n n) 4 n 1 [rq 0 ((d : Int) + 1)] = mSl f (d + 1) (n + 1) n := by
      unfold voteS
      rw [if_pos hc, if_pos rfl]
      simp only [mSl, Sl.mk.injEq, true_and, and_true, Int.toNat_natCast]
      exact qv_set f 1 _ n hn
    rw [this]

theorem gs_vote5 (f : Nat) (v : Int) (d n : Nat) (hd : d < 16) (hn : n < 3 * f + 1) : voteB (gs f v d (mPl f (d + 1) (n + 1) n)) 5 ((d : Int) + 1) n = true ∧ voteI (gs f v d (mPl f (d + 1) (n + 1) n)) 5 ((d : Int) + 1) n 2 [rq 0 ((d : Int) + 1)] = gs f v d (mPl f (d + 1) (n + 1) (n + 1)) := by
  have hc : canVote (mSl f (d + 1) (n + 1) n) 5 n = true := qv_open f 2 _ n hn
  refine ⟨?_, ?_⟩
  · simp only [voteB, gs_pl f v d _ hd]
    exact hc
  · simp only [voteI, gs_idx d hd]
    rw [if_pos (by rfl), gs_upd]
    congr 1
    simp only [mPl]
    have : voteS (mSl f (d + 1) (n + 1) n) 5 n 2 [rq 0 ((d : Int) + 1)] = mSl f (d + 1) (n + 1) (n + 1) := by
      unfold voteS
      rw [if_pos hc, if_neg (by omega)]
      simp only [mSl, Sl.mk.injEq, true_and, Int.toNat_natCast]
      exact qv_set f 2 _ n hn
    rw [this]

theorem gs_prepd (f : Nat) (v : Int) (d : Nat) (hd : d < 16) : prepI (gs f v d (mPl f (d + 1) (2 * f + 1) (2 * f + 1))) ((d : Int) + 1) = some (pCp f v (d + 1)) ∧ preparedI (gs f v d (mPl f (d + 1) (2 * f + 1) (2 * f + 1))) ((d : Int) + 1) = gs f v d (tPl f v (d + 1)) := by
  have hp : prepI (gs f v d (mPl f (d + 1) (2 * f + 1) (2 * f + 1))) ((d : Int) + 1) = some (pCp f v (d + 1)) := by
    simp only [prepI, gs_pl f v d _ hd]
    simp only [show (gs f v d (mPl f (d + 1) (2 * f + 1) (2 * f + 1))).on = true from rfl, show (mPl f (d + 1) (2 * f + 1) (2 * f + 1)).told = false from rfl, Bool.not_false, Bool.and_self, if_true]
    rw [show (gs f v d (mPl f (d + 1) (2 * f + 1) (2 * f + 1))).f = f from rfl, show preparedS f (mPl f (d + 1) (2 * f + 1) (2 * f + 1)).sl = enoughS (qv f 1 [rq 0 ((d + 1 : Nat) : Int)] (2 * f + 1)) [rq 0 ((d + 1 : Nat) : Int)] (2 * f + 1) from rfl, qv_full f 1 _]
    rfl
  refine ⟨hp, ?_⟩
  simp only [preparedI, gs_idx d hd, hp]
  rw [gs_upd]
  rfl

theorem gs_twice (f : Nat) (v : Int) (d : Nat) (hd : d < 16) : prepI (gs f v d (tPl f v (d + 1))) ((d : Int) + 1) = none := by
  simp only [prepI, gs_pl f v d _ hd]
  rfl

theorem gs_comm (f : Nat) (v : Int) (d : Nat) (hd : d < 16) : commI (gs f v d (tPl f v (d + 1))) ((d : Int) + 1) = some (dCp f v (d + 1)) ∧ commitsI (gs f v d (tPl f v (d + 1))) ((d : Int) + 1) = gz f v (d + 1) := by
  have hp : commI (gs f v d (tPl f v (d + 1))) ((d : Int) + 1) = some (dCp f v (d + 1)) := by
    simp only [commI, gs_pl f v d _ hd]
    rw [if_neg (by simp [tPl, mPl, emptyPl]), show (gs f v d (tPl f v (d + 1))).f = f from rfl, show committedS f (tPl f v (d + 1)).sl = committedL (qv f 2 [rq 0 ((d + 1 : Nat) : Int)] (2 * f + 1)) (2 * f + 1) (qv f 2 [rq 0 ((d + 1 : Nat) : Int)] (2 * f + 1)) from rfl, qv_comm]
    rfl
  refine ⟨hp, ?_⟩
  simp only [commitsI, gs_idx d hd, hp]
  rw [gs_upd, ← gs_next]
  rfl

theorem gz_certs (f : Nat) (v : Int) (d : Nat) (hd : d ≤ 16) : (certsI (gz f v d)).length = d := by
  simp only [certsI, List.length_map, gs, List.filter_map]
  rw [show (List.range 16).filter ((fun x => x.has) ∘ fun j => if j < d then fPl f v (j + 1) else if j = d then emptyPl f else emptyPl f) = (List.range 16).filter (fun j => decide (j < d)) from ?_]
  · have : ∀ n, ((List.range n).filter (fun j => decide (j < d))).length = min n d := by
      intro n
      induction n with
      | zero => simp
      | succ n ih =>
        rw [List.range_succ, List.filter_append, List.length_append, ih]
        by_cases h : n < d
        · simp [h]; omega
        · simp [h]; omega
    rw [this]; omega
  · apply List.filter_congr
    intro j _
    by_cases h : j < d
    · simp [h, fPl, tPl]
    · simp [h, emptyPl]

theorem gz_new (f : Nat) : newI f 0 1 = gz f 0 0 := by
  simp only [newI, gs, In.mk.injEq, true_and]
  apply List.ext_getElem?
  intro j
  rw [List.getElem?_replicate, List.getElem?_map]
  by_cases hj : j < 16
  · rw [if_pos hj, List.getElem?_range hj]
    simp only [Option.map_some]
    rw [if_neg (by omega)]
    split <;> rfl
  · rw [if_neg hj, List.getElem?_eq_none (by simpa using hj)]
    rfl

theorem gz_leave (f : Nat) (v : Int) (h1 : 0 < v) (h2 : v ≤ 12) : leaveB (gz f 0 0) v = true ∧ leaveI (gz f 0 0) v = { gz f v 0 with on := false } := by
  have hb : leaveB (gz f 0 0) v = true := by simp [leaveB, gs]; omega
  refine ⟨hb, ?_⟩
  unfold leaveI
  rw [if_pos hb]
  simp only [gs, In.mk.injEq, true_and, List.map_map]
  apply List.map_congr_left
  intro j _
  simp only [Function.comp, Nat.not_lt_zero, if_false]
  split <;> rfl

end Go.Proofs.Ytdeadekeffficaa
