/- A law's state: one slot, some batches that stay. -/
import Derived.Test.YtdeadekeffficaaKeep
namespace Go.Proofs.Ytdeadekeffficaa
open Go.RowKit Go.Heap

def rq (c t : Int) : Rq := ⟨c, t, 0, 0, 0, 0⟩

abbrev rqObj (c t : Int) : Obj := .cells #[.int .i64 c, .int .i64 t, .int .i64 0, .int .i64 0, .int .i64 0, .int .i64 0] 32

theorem bat_one {w : World} {g : Nat} {c t : Int} (h : w.heap[g]? = some (rqObj c t)) : Bat w (.slice (some ⟨g, 0, none⟩) 1 1) [rq c t] := by
  refine ⟨some ⟨g, 0, none⟩, 1, rfl, Nat.le_refl _, by simp [maxLen], rfl, (fun e => by cases e), fun _ => ⟨g, 0, rfl, block_lt h, fun j hj => ?_⟩⟩
  rw [Nat.zero_add, block_cell h]
  match j, hj with
  | 0, _ => rfl
  | 1, _ => rfl
  | 2, _ => rfl
  | 3, _ => rfl
  | 4, _ => rfl
  | 5, _ => rfl

theorem vts_three {w : World} {g : Nat} {a b c d e f : Int} (h : w.heap[g]? = some (.cells #[.int .i64 a, .int .i64 b, .int .i64 c, .int .i64 d, .int .i64 e, .int .i64 f] 44 (0, 0))) : Vts w (.slice (some ⟨g, 0, none⟩) 3 3) [(a, b), (c, d), (e, f)] := by
  refine ⟨some ⟨g, 0, none⟩, 3, rfl, Nat.le_refl _, by simp [maxLen], rfl, (fun e => by cases e), fun _ => ⟨g, 0, rfl, block_lt h, fun j hj => ?_⟩⟩
  rw [Nat.zero_add, block_cell h]
  match j, hj with
  | 0, _ => rfl
  | 1, _ => rfl
  | 2, _ => rfl
  | 3, _ => rfl
  | 4, _ => rfl
  | 5, _ => rfl

theorem vts_form {w : World} {v : Value} {l : Vs} (h : Vts w v l) : ∃ ao cap, v = .slice ao l.length cap := let ⟨ao, cap, hv, _⟩ := h; ⟨ao, cap, hv⟩

abbrev sl1 (g : Nat) : Value := .slice (some ⟨g, 0, none⟩) 1 1

/-- One slot at L, in state st; the batches bs lie where the slot does not write; below B all is as in w0. -/
structure St (B : Nat) (w0 W : World) (L : Loc) (st : Sl) (bs : List (Value × List Rq)) : Prop where
  below : Below B w0 W
  size : B ≤ W.heap.size
  M : ∀ k ∈ L.M, B ≤ k
  on : On W L st []
  bat : ∀ p ∈ bs, Bat W p.1 p.2 ∧ ∀ b ∈ blkOf p.1, b ∉ L.M ∧ b < W.heap.size

section
variable {B : Nat} {w0 W W' : World} {L : Loc} {st : Sl} {bs : List (Value × List Rq)}

theorem St.upd0 (h : St B w0 W L st bs) (hu : Upd [] W W') : St B w0 W' L st bs where
  below := h.below.trans (hu.below.mono h.size)
  size := Nat.le_trans h.size hu.size
  M := h.M
  on := h.on.upd0 hu
  bat := fun p hp => ⟨(h.bat p hp).1.upd hu (by simp), fun b hb => ⟨((h.bat p hp).2 b hb).1, Nat.lt_of_lt_of_le ((h.bat p hp).2 b hb).2 hu.size⟩⟩

theorem St.alloc (h : St B w0 W L st bs) (o : Obj) : St B w0 (W.alloc o) L st bs := h.upd0 ((Upd.refl _ _).alloc o)
theorem St.drew (h : St B w0 W L st bs) : St B w0 W.drew L st bs := h.upd0 (Upd.refl _ _).drew

theorem St.batch (h : St B w0 W L st bs) (c t : Int) : St B w0 (W.alloc (rqObj c t)) L st ((sl1 W.heap.size, [rq c t]) :: bs) where
  below := (h.alloc _).below
  size := (h.alloc (rqObj c t)).size
  M := h.M
  on := (h.alloc _).on
  bat := by
    intro p hp
    rcases List.mem_cons.1 hp with rfl | hp
    · refine ⟨bat_one (heap_alloc_new W _), fun b hb => ?_⟩
      simp [blkOf] at hb
      subst hb
      exact ⟨fun hn => by have := h.on.lt _ hn; omega, by simp⟩
    · exact (h.alloc _).bat p hp

theorem St.nil (h : St B w0 W L st bs) : St B w0 W L st ((.slice none 0 0, []) :: bs) :=
  ⟨h.below, h.size, h.M, h.on, fun p hp => by
    rcases List.mem_cons.1 hp with rfl | hp
    · exact ⟨Reads.nil _ _, by simp [blkOf]⟩
    · exact h.bat p hp⟩

theorem st_step {st' : Sl} (h : St B w0 W L st bs) (hu : Upd L.M W W') (hon : On W' L st' []) : St B w0 W' L st' bs where
  below := h.below.trans (hu.belowB h.size h.M)
  size := Nat.le_trans h.size hu.size
  M := h.M
  on := hon
  bat := fun p hp => ⟨(h.bat p hp).1.upd hu (fun b hb => ((h.bat p hp).2 b hb).1), fun b hb => ⟨((h.bat p hp).2 b hb).1, Nat.lt_of_lt_of_le ((h.bat p hp).2 b hb).2 hu.size⟩⟩

theorem st_new (f : Nat) (h1 : 1 ≤ f) (h2 : f ≤ 4) (w0 W : World) (B : Nat) (hb : Below B w0 W) (hB : B ≤ W.heap.size) :
    Calls Try.prog 18 #[.int .i64 f] W fun e w' => ∃ L : Loc, e = .returned (.tuple #[L.ptr, .int .i64 0]) ∧ L.f = f ∧ St B w0 w' L (emptySl f) [] := by
  refine (on_new f h1 h2 W).mono ?_
  rintro e w' ⟨L, he, hf, hu, hM, hon⟩
  exact ⟨L, he, hf, hb.trans (hu.below.mono hB), Nat.le_trans hB hu.size, fun k hk => Nat.le_trans hB (hM k hk), hon [] (by simp), by simp⟩

theorem st_pre (h : St B w0 W L st bs) (v : Value) (rs : List Rq) (hb : (v, rs) ∈ bs) (hn : rs.length ≤ 100000) :
    Calls Try.prog 20 #[L.ptr, v] W fun e w' => e = .returned (.bool (!st.has)) ∧ St B w0 w' L (if st.has then st else { st with has := true, batch := rs }) bs := by
  refine (on_pre h.on v rs (h.bat _ hb).1 hn).mono ?_
  rintro e w' ⟨he, hu, hon⟩
  exact ⟨he, st_step h hu hon⟩

theorem st_vote (h : St B w0 W L st bs) (kind node sl : Int) (v : Value) (rs : List Rq) (hb : (v, rs) ∈ bs) (hn : rs.length ≤ 100000) :
    Calls Try.prog 22 #[L.ptr, .int .i64 kind, .int .i64 node, .int .i64 sl, v] W fun e w' => e = .returned (.bool (canVote st kind node)) ∧ St B w0 w' L (voteS st kind node sl rs) bs := by
  refine (on_vote h.on kind node sl v rs (h.bat _ hb).1 hn).mono ?_
  rintro e w' ⟨he, hu, hon⟩
  exact ⟨he, st_step h hu hon⟩

theorem st_voted (h : St B w0 W L st bs) (kind node : Int) :
    Calls Try.prog 28 #[L.ptr, .int .i64 kind, .int .i64 node] W fun e w' => e = .returned (.bool (votedB (listOf st kind) node)) ∧ W = w' := on_voted h.on kind node

theorem st_chosen (h : St B w0 W L st bs) :
    Calls Try.prog 29 #[L.ptr] W fun e w' => ∃ u, e = .returned (.tuple #[u, .bool st.has]) ∧ St B w0 w' L st bs ∧ Bat w' u (chosenS st) := by
  refine (on_chosen h.on).mono ?_
  rintro e w' ⟨u, he, hu, hon, hb, hn⟩
  exact ⟨u, he, h.upd0 hu, hb⟩

theorem st_prepared (h : St B w0 W L st bs) :
    Calls Try.prog 23 #[L.ptr] W fun e w' => ∃ u, e = .returned (.tuple #[u, .bool (preparedS L.f st).isSome]) ∧ St B w0 w' L st bs ∧ Vts w' u ((preparedS L.f st).getD []) := by
  refine (on_prepared h.on).mono ?_
  rintro e w' ⟨u, he, hu, hon, hb, hn⟩
  exact ⟨u, he, h.upd0 hu, hb⟩

theorem st_committed (h : St B w0 W L st bs) :
    Calls Try.prog 24 #[L.ptr] W fun e w' => ∃ v u, e = .returned (.tuple #[v, u, .bool (committedS L.f st).isSome]) ∧ St B w0 w' L st bs ∧ Bat w' v (batchOf (committedS L.f st)) ∧ Vts w' u (votesOf (committedS L.f st)) := by
  refine (on_committed h.on).mono ?_
  rintro e w' ⟨v, u, he, hu, hon, q1, q2, _, _⟩
  exact ⟨v, u, he, h.upd0 hu, q1, q2⟩

theorem st_reset (h : St B w0 W L st bs) :
    Calls Try.prog 33 #[L.ptr] W fun e w' => ∃ bp bc, e = .returned (.tuple #[]) ∧ St B w0 w' ⟨L.s, bp, bc, 3 * L.f + 1, 3 * L.f + 1, L.f⟩ (emptySl L.f) bs := by
  refine (on_reset h.on).mono ?_
  rintro e w' ⟨bp, bc, he, hu, g1, g2, hon⟩
  have hs : L.s ∈ L.M := by simp [Loc.M]
  refine ⟨bp, bc, he, h.below.trans (hu.belowB h.size (by intro k hk; simp at hk; subst hk; exact h.M _ hs)), Nat.le_trans h.size hu.size, ?_, hon, fun p hp => ⟨(h.bat p hp).1.upd hu (fun b hb hn => ?_), fun b hb => ⟨fun hn => ?_, Nat.lt_of_lt_of_le ((h.bat p hp).2 b hb).2 hu.size⟩⟩⟩
  · intro k hk
    have := h.size
    have hs' := h.M _ hs
    simp [Loc.M] at hk
    omega
  · simp at hn; subst hn; exact ((h.bat p hp).2 _ hb).1 hs
  · simp [Loc.M] at hn
    obtain ⟨hb', hlt⟩ := (h.bat p hp).2 b hb
    rcases hn with rfl | rfl | rfl
    · exact hb' hs
    · omega
    · omega

end
end Go.Proofs.Ytdeadekeffficaa
