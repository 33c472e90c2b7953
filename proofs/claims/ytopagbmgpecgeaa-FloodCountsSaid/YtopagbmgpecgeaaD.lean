import Derived.Test.YtopagbmgpecgeaaC
namespace Go.Proofs.Ytopagbmgpecgeaa
open Go.RowKit

/-- The guard's state as the document tells it: each party's count, and till when it is shut out. -/
structure Tells (m : Int) (ps : List Peer) (cnt : Int → Int) (till : Int → Option Int) : Prop where
  nf : ∀ x, atB ps 0 x = -1 → cnt x = 0 ∧ till x = none
  yf : ∀ x i p, atB ps 0 x = (i : Nat) → ps[i]? = some p → cnt x = p.bad ∧ till x = some p.till
  bound : ∀ x, 0 ≤ cnt x ∧ cnt x ≤ m

def G (w : World) (B g : Nat) (m t : Int) (L : Nat) (cnt : Int → Int) (till : Int → Option Int) : Prop :=
  ∃ ps, GuardAt w B g m t ps ∧ ps.length ≤ L ∧ Tells m ps cnt till

theorem G.grown {w w' : World} {B g : Nat} {m t : Int} {L : Nat} {cnt : Int → Int} {till : Int → Option Int} (h : G w B g m t L cnt till) (hb : Below w.heap.size w w') : G w' B g m t L cnt till :=
  let ⟨ps, h1, h2, h3⟩ := h; ⟨ps, h1.grown hb, h2, h3⟩

def bumpC (m : Int) (cnt : Int → Int) (x : Int) : Int → Int := fun y => if y = x then (if m < cnt x + 1 then 0 else cnt x + 1) else cnt y
def bumpT (m t c : Int) (cnt : Int → Int) (till : Int → Option Int) (x : Int) : Int → Option Int := fun y => if y = x then (if m < cnt x + 1 then some (wthn c + t) else some ((till x).getD 0)) else till y
def overB (m : Int) (cnt : Int → Int) (x : Int) : Bool := decide (m < cnt x + 1)
def shutB (till : Int → Option Int) (x c : Int) : Bool := match till x with | some u => decide (wthn c < u) | none => false

theorem atB_app (ps : List Peer) (q : Peer) : ∀ (k x : Int), 0 ≤ k → atB (ps ++ [q]) k x = if atB ps k x = -1 then (if q.party = x then k + ps.length else -1) else atB ps k x := by
  induction ps with
  | nil => intro k x _; simp [atB]
  | cons r ps ih =>
    intro k x hk
    by_cases h : r.party = x
    · have e1 : atB (r :: ps ++ [q]) k x = k := by simp [atB, h]
      have e2 : atB (r :: ps) k x = k := by simp [atB, h]
      rw [e1, e2, if_neg (by omega)]
    · have e1 : atB (r :: ps ++ [q]) k x = atB (ps ++ [q]) (k + 1) x := by simp [atB, h]
      have e2 : atB (r :: ps) k x = atB ps (k + 1) x := by simp [atB, h]
      rw [e1, e2, ih (k + 1) x (by omega), List.length_cons, show k + 1 + (ps.length : Int) = k + ((ps.length + 1 : Nat) : Int) by omega]

theorem atB_set (ps : List Peer) : ∀ (i : Nat) (p : Peer) (b t k x : Int), ps[i]? = some p → atB (ps.set i ⟨p.party, b, t⟩) k x = atB ps k x := by
  induction ps with
  | nil => intro i p b t k x h; simp at h
  | cons q ps ih =>
    intro i p b t k x h
    match i with
    | 0 => simp at h; subst h; simp [atB]
    | i + 1 => simp only [List.set_cons_succ, atB]; rw [ih i p b t (k + 1) x (by simpa using h)]

theorem atB_inj (ps : List Peer) (k x : Int) (i : Nat) (p : Peer) (hk : 0 ≤ k) (h : atB ps k x = k + i) (hp : ps[i]? = some p) : p.party = x := by
  obtain ⟨j, q, h1, h2, h3⟩ := atB_found ps k x (by omega) hk
  have : j = i := by omega
  subst this
  rw [h1] at hp
  cases hp
  exact h2

theorem Tells.new {m : Int} {ps : List Peer} {cnt : Int → Int} {till : Int → Option Int} (h : Tells m ps cnt till) (hm : 1 ≤ m) (t c x : Int) (hx : atB ps 0 x = -1) :
    overB m cnt x = false ∧ Tells m (ps ++ [⟨x, 1, 0⟩]) (bumpC m cnt x) (bumpT m t c cnt till x) := by
  obtain ⟨h1, h2⟩ := h.nf x hx
  refine ⟨by simp [overB, h1]; omega, ⟨fun y hy => ?_, fun y i p hy hp => ?_, fun y => ?_⟩⟩
  · rw [atB_app _ _ _ _ (by omega)] at hy
    split at hy
    · rename_i hy0
      have hne : y ≠ x := by
        intro e
        rw [if_pos e.symm] at hy
        omega
      simp only [bumpC, bumpT, if_neg hne]
      exact h.nf y hy0
    · contradiction
  · rw [atB_app _ _ _ _ (by omega)] at hy
    by_cases e : y = x
    · subst e
      rw [if_pos hx, if_pos rfl] at hy
      have hi : i = ps.length := by omega
      subst hi
      simp at hp
      subst hp
      simp [bumpC, bumpT, h1, h2]
      omega
    · simp only [bumpC, bumpT, if_neg e]
      split at hy
      · rw [if_neg (fun h => e h.symm)] at hy; omega
      · obtain ⟨j, q, g1, g2, g3⟩ := atB_found ps 0 y (by assumption) (by omega)
        have hj : j = i := by omega
        subst hj
        have hjl := (List.getElem?_eq_some_iff.1 g1).1
        rw [List.getElem?_append_left hjl, g1] at hp
        cases hp
        exact h.yf y j _ hy g1
  · have := h.bound y
    simp only [bumpC]
    split
    · split <;> omega
    · exact this

theorem Tells.old {m : Int} {ps : List Peer} {cnt : Int → Int} {till : Int → Option Int} (h : Tells m ps cnt till) (hm : 1 ≤ m) (t c x : Int) (i : Nat) (p : Peer) (hp : ps[i]? = some p) (hx : atB ps 0 x = i) :
    (¬ p.bad + 1 ≤ m → overB m cnt x = true ∧ Tells m (ps.set i ⟨p.party, 0, wthn c + t⟩) (bumpC m cnt x) (bumpT m t c cnt till x)) ∧
    (p.bad + 1 ≤ m → overB m cnt x = false ∧ Tells m (ps.set i ⟨p.party, p.bad + 1, p.till⟩) (bumpC m cnt x) (bumpT m t c cnt till x)) := by
  obtain ⟨h1, h2⟩ := h.yf x i p hx hp
  have hb := h.bound x
  have key : ∀ b u, (bumpC m cnt x x = b) → (bumpT m t c cnt till x x = some u) → Tells m (ps.set i ⟨p.party, b, u⟩) (bumpC m cnt x) (bumpT m t c cnt till x) := by
    intro b u hbb hu
    refine ⟨fun y hy => ?_, fun y j q hy hq => ?_, fun y => ?_⟩
    · rw [atB_set ps i p _ _ _ _ hp] at hy
      have hne : y ≠ x := by intro e; subst e; omega
      simp only [bumpC, bumpT, if_neg hne]
      exact h.nf y hy
    · rw [atB_set ps i p _ _ _ _ hp] at hy
      by_cases e : y = x
      · subst e
        have hj : j = i := by omega
        subst hj
        have hil := (List.getElem?_eq_some_iff.1 hp).1
        rw [List.getElem?_set_self hil] at hq
        cases hq
        exact ⟨hbb, hu⟩
      · have hne : j ≠ i := by
          intro e2
          subst e2
          have a1 := atB_inj ps 0 y j p (by omega) (by omega) hp
          have a2 := atB_inj ps 0 x j p (by omega) (by omega) hp
          exact e (a1.symm.trans a2)
        rw [List.getElem?_set_ne (Ne.symm hne)] at hq
        simp only [bumpC, bumpT, if_neg e]
        exact h.yf y j q hy hq
    · have := h.bound y
      simp only [bumpC]
      split
      · split <;> omega
      · exact this
  refine ⟨fun hn => ⟨by simp [overB, h1]; omega, key _ _ ?_ ?_⟩, fun hn => ⟨by simp [overB, h1]; omega, key _ _ ?_ ?_⟩⟩
  · simp [bumpC, h1]; omega
  · simp [bumpT, h1]; omega
  · simp [bumpC, h1]; omega
  · simp [bumpT, h1, h2]; omega

theorem bad_any (B g : Nat) (m t : Int) (L : Nat) (cnt : Int → Int) (till : Int → Option Int) (x c : Int) (w : World) (hm : 1 ≤ m) (hm2 : m ≤ 64) (ht : 1 ≤ t) (ht2 : t ≤ 64) (hL : L ≤ 100000) (h : G w B g m t L cnt till) :
    Calls Try.prog 7 #[.pointer (some ⟨g, 0, none⟩), .int .i64 x, .int .i64 c] w fun e w' => e = .returned (.bool (overB m cnt x)) ∧ Below B w w' ∧ G w' B g m t (L + 1) (bumpC m cnt x) (bumpT m t c cnt till x) := by
  obtain ⟨ps, h1, h2, h3⟩ := h
  by_cases hx : atB ps 0 x = -1
  · obtain ⟨e1, e2⟩ := h3.new hm t c x hx
    refine (bad_new B g m t ps x c w hm (by omega) h1 hx).mono fun e w' ⟨q1, q2, q3⟩ => ⟨by rw [e1]; exact q1, q2, _, q3, by simp; omega, e2⟩
  · obtain ⟨i, p, a1, a2, a3⟩ := atB_found ps 0 x hx (by omega)
    have hxi : atB ps 0 x = i := by omega
    obtain ⟨e1, e2⟩ := h3.yf x i p hxi a1
    have hb := h3.bound x
    obtain ⟨y, n⟩ := h3.old hm t c x i p a1 hxi
    by_cases hov : p.bad + 1 ≤ m
    · refine (bad_no B g m t ps x c w (by omega) h1 i p a1 hxi hov (by omega) hm2).mono fun e w' ⟨q1, q2, q3⟩ => ⟨by rw [(n hov).1]; exact q1, q2, _, q3, by simp; omega, (n hov).2⟩
    · refine (bad_yes B g m t ps x c w (by omega) h1 i p a1 hxi hov (by omega) (by omega) hm2 (by omega) ht2).mono fun e w' ⟨q1, q2, q3⟩ => ⟨by rw [(y hov).1]; exact q1, q2, _, q3, by simp; omega, (y hov).2⟩

end Go.Proofs.Ytopagbmgpecgeaa
