/- A law's state: slots, blocks that stay, batches that stay. -/
import Derived.Test.YtdeadekeffficaaSt
namespace Go.Proofs.Ytdeadekeffficaa
open Go.RowKit Go.Heap

def avoid (ss : List (Loc × Sl)) : List Nat := ss.flatMap fun p => p.1.M
/-- What no slot's batch lies in. -/
def outs (ss : List (Loc × Sl)) (ks : List (Nat × Obj)) : List Nat := avoid ss ++ ks.map (·.1)

theorem On.more {w w' : World} {L : Loc} {st : Sl} {A : List Nat} {k : Nat} (h : On w L st A) (hu : Upd [] w w') (h1 : w.heap.size ≤ k) (h2 : k < w'.heap.size) : On w' L st (k :: A) := by
  obtain ⟨D, q1, q2, q3⟩ := h.upd0 hu
  obtain ⟨D', r1, r2, r3⟩ := h
  refine ⟨D', r1.upd hu (by simp) (by simp) (by simp) (by simp), fun j hj hn => ?_, fun j hj => ?_⟩
  · rcases List.mem_cons.1 hn with rfl | hn
    · have := r1.Dw j hj; omega
    · exact r2 j hj hn
  · rcases List.mem_cons.1 hj with rfl | hj
    · exact h2
    · exact q3 j hj

structure Ws (B : Nat) (w0 W : World) (ss : List (Loc × Sl)) (ks : List (Nat × Obj)) (bs : List (Value × List Rq)) : Prop where
  below : Below B w0 W
  size : B ≤ W.heap.size
  on : ∀ p ∈ ss, (∀ k ∈ p.1.M, B ≤ k) ∧ On W p.1 p.2 (outs ss ks)
  apart : ss.Pairwise fun p q => ∀ k ∈ p.1.M, k ∉ q.1.M
  keep : ∀ p ∈ ks, W.heap[p.1]? = some p.2 ∧ p.1 ∉ avoid ss
  bat : ∀ p ∈ bs, Bat W p.1 p.2 ∧ ∀ b ∈ blkOf p.1, b ∉ avoid ss ∧ b < W.heap.size

section
variable {B : Nat} {w0 W W' : World} {ss : List (Loc × Sl)} {ks : List (Nat × Obj)} {bs : List (Value × List Rq)}

theorem avoid_cons (p : Loc × Sl) (ss : List (Loc × Sl)) (k : Nat) : k ∈ avoid (p :: ss) ↔ k ∈ p.1.M ∨ k ∈ avoid ss := by simp [avoid]
theorem outs_iff (ss : List (Loc × Sl)) (ks : List (Nat × Obj)) (k : Nat) : k ∈ outs ss ks ↔ k ∈ avoid ss ∨ ∃ p ∈ ks, p.1 = k := by simp [outs]
theorem mem_outs {k : Nat} (h : k ∈ avoid ss) : k ∈ outs ss ks := (outs_iff ss ks k).2 (.inl h)
theorem mem_avoid {p : Loc × Sl} (h : p ∈ ss) {k : Nat} (hk : k ∈ p.1.M) : k ∈ avoid ss := by
  simp only [avoid, List.mem_flatMap]; exact ⟨p, h, hk⟩

theorem Ws.lt (h : Ws B w0 W ss ks bs) : ∀ k ∈ avoid ss, k < W.heap.size := by
  intro k hk
  simp only [avoid, List.mem_flatMap] at hk
  obtain ⟨p, hp, hk⟩ := hk
  exact (h.on p hp).2.lt k hk

theorem Ws.upd0 (h : Ws B w0 W ss ks bs) (hu : Upd [] W W') : Ws B w0 W' ss ks bs where
  below := h.below.trans (hu.below.mono h.size)
  size := Nat.le_trans h.size hu.size
  on := fun p hp => ⟨(h.on p hp).1, (h.on p hp).2.upd0 hu⟩
  apart := h.apart
  keep := fun p hp => ⟨(hu.block _ (block_lt (h.keep p hp).1) (by simp)).trans (h.keep p hp).1, (h.keep p hp).2⟩
  bat := fun p hp => ⟨(h.bat p hp).1.upd hu (by simp), fun b hb => ⟨((h.bat p hp).2 b hb).1, Nat.lt_of_lt_of_le ((h.bat p hp).2 b hb).2 hu.size⟩⟩

theorem Ws.alloc (h : Ws B w0 W ss ks bs) (o : Obj) : Ws B w0 (W.alloc o) ss ks bs := h.upd0 ((Upd.refl _ _).alloc o)
theorem Ws.drew (h : Ws B w0 W ss ks bs) : Ws B w0 W.drew ss ks bs := h.upd0 (Upd.refl _ _).drew

/-- A new block is kept. -/
theorem Ws.box (h : Ws B w0 W ss ks bs) (o : Obj) : Ws B w0 (W.alloc o) ss ((W.heap.size, o) :: ks) bs := by
  have h' := h.alloc o
  refine ⟨h'.below, h'.size, fun p hp => ⟨(h.on p hp).1, ((h.on p hp).2.more ((Upd.refl _ _).alloc o) (Nat.le_refl _) (by simp)).avoid (A' := outs ss ((W.heap.size, o) :: ks)) fun k hk => ?_⟩, h'.apart, fun p hp => ?_, h'.bat⟩
  · rcases (outs_iff _ _ k).1 hk with hk | ⟨q, hq, rfl⟩
    · exact List.mem_cons_of_mem _ (mem_outs hk)
    · rcases List.mem_cons.1 hq with rfl | hq
      · exact List.mem_cons_self
      · exact List.mem_cons_of_mem _ ((outs_iff _ _ _).2 (.inr ⟨q, hq, rfl⟩))
  rcases List.mem_cons.1 hp with rfl | hp
  · exact ⟨heap_alloc_new W _, fun hn => by have := h.lt _ hn; simp at this⟩
  · exact h'.keep p hp

theorem Ws.batch (h : Ws B w0 W ss ks bs) (c t : Int) : Ws B w0 (W.alloc (rqObj c t)) ss ks ((sl1 W.heap.size, [rq c t]) :: bs) := by
  have h' := h.alloc (rqObj c t)
  refine ⟨h'.below, h'.size, h'.on, h'.apart, h'.keep, fun p hp => ?_⟩
  rcases List.mem_cons.1 hp with rfl | hp
  · refine ⟨bat_one (heap_alloc_new W _), fun b hb => ?_⟩
    simp [blkOf] at hb
    subst hb
    exact ⟨fun hn => by have := h.lt _ hn; omega, by simp⟩
  · exact h'.bat p hp

/-- A cell of a kept block is stored. -/
theorem Ws.store {b : Nat} {o : Obj} (h : Ws B w0 W ss ((b, o) :: ks) bs) (hB : B ≤ b) (hk : ∀ p ∈ ks, p.1 ≠ b) (hb : ∀ p ∈ bs, b ∉ blkOf p.1) (i : Nat) (v : Value) : Ws B w0 (W.setCell ⟨b, i, none⟩ v) ss ((b, setIn i v o) :: ks) bs := by
  have hu : Upd [b] W (W.setCell ⟨b, i, none⟩ v) := (Upd.refl _ _).setCell (.inl (by simp)) v
  have hbb := h.keep (b, o) (by simp)
  refine ⟨h.below.trans (hu.belowB h.size (by simpa using hB)), by rw [hs_set]; exact h.size, fun p hp => ⟨(h.on p hp).1, ?_⟩, h.apart, fun p hp => ?_, fun p hp => ?_⟩
  · refine ((h.on p hp).2.upd hu (fun k hk => ?_)).avoid (A' := outs ss ((b, setIn i v o) :: ks)) (fun k hk => hk)
    have hk := List.mem_singleton.1 hk
    subst hk
    exact ⟨fun hn => hbb.2 (mem_avoid hp hn), (outs_iff _ _ _).2 (.inr ⟨(k, o), by simp, rfl⟩)⟩
  · rcases List.mem_cons.1 hp with rfl | hp
    · exact ⟨by show (W.setCell ⟨b, i, none⟩ v).heap[b]? = _; rw [hp_same rfl, hbb.1]; rfl, hbb.2⟩
    · exact ⟨by rw [hp_other (hk p hp)]; exact (h.keep p (List.mem_cons_of_mem _ hp)).1, (h.keep p (List.mem_cons_of_mem _ hp)).2⟩
  · obtain ⟨q1, q2⟩ := h.bat p hp
    exact ⟨q1.upd hu (by intro k hkk e; have e := List.mem_singleton.1 e; rw [e] at hkk; exact hb p hp hkk), fun k hk => ⟨(q2 k hk).1, by rw [hs_set]; exact (q2 k hk).2⟩⟩

/-- The kept blocks turn: those that are written are named; new ones are kept from now on. -/
theorem Ws.turn {N : List Nat} (h : Ws B w0 W ss ks bs) (hu : Upd N W W') (ks' : List (Nat × Obj)) (hN : ∀ k ∈ N, (∃ p ∈ ks, p.1 = k) ∧ B ≤ k ∧ ∀ p ∈ bs, k ∉ blkOf p.1)
    (hk : ∀ p ∈ ks', W'.heap[p.1]? = some p.2 ∧ ((∃ q ∈ ks, q.1 = p.1) ∨ W.heap.size ≤ p.1)) : Ws B w0 W' ss ks' bs := by
  have hNa : ∀ k ∈ N, k ∉ avoid ss := by
    intro k hkN
    obtain ⟨⟨q, hq, rfl⟩, _, _⟩ := hN k hkN
    exact (h.keep q hq).2
  have hNo : ∀ k ∈ N, k ∈ outs ss ks := fun k hkN => (outs_iff _ _ k).2 (.inr (hN k hkN).1)
  refine ⟨h.below.trans (hu.belowB h.size fun k hkN => (hN k hkN).2.1), Nat.le_trans h.size hu.size, fun p hp => ⟨(h.on p hp).1, ?_⟩, h.apart, fun p hp => ⟨(hk p hp).1, ?_⟩, fun p hp => ⟨(h.bat p hp).1.upd hu (fun b hb hn => (hN b hn).2.2 p hp hb), fun b hb => ⟨((h.bat p hp).2 b hb).1, Nat.lt_of_lt_of_le ((h.bat p hp).2 b hb).2 hu.size⟩⟩⟩
  · have hon' := (h.on p hp).2.upd hu fun k hkN => ⟨fun hn => hNa k hkN (mem_avoid hp hn), hNo k hkN⟩
    obtain ⟨D, q1, q2, q3⟩ := (h.on p hp).2
    have hm : ∀ k, k ∈ p.1.M → k ∉ N := fun k hk hn => hNa k hn (mem_avoid hp hk)
    refine ⟨D, q1.upd hu (hm _ (by simp [Loc.M])) (hm _ (by simp [Loc.M])) (hm _ (by simp [Loc.M])) (fun k hkD hn => q2 k hkD (hNo k hn)), fun k hkD hn => ?_, fun k hkO => ?_⟩
    · rcases (outs_iff _ _ k).1 hn with hn | ⟨q, hq, rfl⟩
      · exact q2 k hkD (mem_outs hn)
      · rcases (hk q hq).2 with hin | hge
        · exact q2 _ hkD ((outs_iff _ _ _).2 (.inr hin))
        · have := q1.Dw _ hkD; omega
    · rcases (outs_iff _ _ k).1 hkO with hn | ⟨q, hq, rfl⟩
      · exact Nat.lt_of_lt_of_le (h.lt k hn) hu.size
      · exact block_lt (hk q hq).1
  · rcases (hk p hp).2 with ⟨q, hq, he⟩ | hge
    · rw [← he]; exact (h.keep q hq).2
    · intro hn; have := h.lt _ hn; omega

theorem Ws.drop {k : Nat × Obj} (h : Ws B w0 W ss (k :: ks) bs) : Ws B w0 W ss ks bs :=
  h.turn (Upd.refl [] _) ks (by simp) fun p hp => ⟨(h.keep p (by simp [hp])).1, .inl ⟨p, by simp [hp], rfl⟩⟩

/-- A block that is this call's to write (a slice that it appends to). -/
def Scr (B : Nat) (w0 W : World) (ss : List (Loc × Sl)) (ks : List (Nat × Obj)) (bs : List (Value × List Rq)) : Option Nat → Prop
  | none => Ws B w0 W ss ks bs
  | some b => ∃ o, Ws B w0 W ss ((b, o) :: ks) bs ∧ B ≤ b ∧ (∀ p ∈ ks, p.1 ≠ b) ∧ ∀ p ∈ bs, b ∉ blkOf p.1

theorem Scr.ws {r : Option Nat} (h : Scr B w0 W ss ks bs r) : Ws B w0 W ss ks bs := by
  cases r with
  | none => exact h
  | some b => obtain ⟨o, h1, _⟩ := h; exact h1.drop

theorem Scr.upd0 {r : Option Nat} (h : Scr B w0 W ss ks bs r) (hu : Upd [] W W') : Scr B w0 W' ss ks bs r := by
  cases r with
  | none => exact Ws.upd0 h hu
  | some b => obtain ⟨o, h1, h2⟩ := h; exact ⟨o, h1.upd0 hu, h2⟩

theorem Scr.alloc {r : Option Nat} (h : Scr B w0 W ss ks bs r) (o : Obj) : Scr B w0 (W.alloc o) ss ks bs r := h.upd0 ((Upd.refl _ _).alloc o)

theorem Scr.grown {r : Option Nat} {g : Nat} (h : Scr B w0 W ss ks bs r) (hg : W.grownBy W' r) (hat : r = some g ∨ g = W.heap.size) (hlt : g < W'.heap.size) : Scr B w0 W' ss ks bs (some g) := by
  have hw := h.ws
  obtain ⟨o', ho'⟩ : ∃ o', W'.heap[g]? = some o' := ⟨_, Array.getElem?_eq_getElem hlt⟩
  cases r with
  | none =>
    have hat : g = W.heap.size := by rcases hat with h | h; (cases h); exact h
    have hu : Upd [] W W' := (Upd.refl _ _).grown hg (by intro k hk; cases hk)
    refine ⟨o', hw.turn hu _ (by simp) (fun p hp => ?_), by have := hw.size; omega, fun p hp => by have := block_lt (hw.keep p hp).1; omega, fun p hp hb => by have := ((hw.bat p hp).2 g hb).2; omega⟩
    rcases List.mem_cons.1 hp with rfl | hp
    · exact ⟨ho', .inr (by simp [hat])⟩
    · exact ⟨(hu.block _ (block_lt (hw.keep p hp).1) (by simp)).trans (hw.keep p hp).1, .inl ⟨p, hp, rfl⟩⟩
  | some b =>
    obtain ⟨o, h1, hB, hk, hbs⟩ := h
    have hu : Upd [b] W W' := (Upd.refl _ _).grown hg (by intro k hk; cases hk; simp)
    have hg' : g = b ∨ g = W.heap.size := by rcases hat with h | h; (injection h with h; exact .inl h.symm); exact .inr h
    refine ⟨o', h1.turn hu _ (fun k hkN => ?_) (fun p hp => ?_), by have := hw.size; omega, fun p hp => ?_, fun p hp hb => ?_⟩
    · have := List.mem_singleton.1 hkN; subst this; exact ⟨⟨(k, o), by simp, rfl⟩, hB, hbs⟩
    · rcases List.mem_cons.1 hp with rfl | hp
      · exact ⟨ho', hg'.elim (fun e => .inl ⟨(b, o), by simp, e.symm⟩) (fun e => .inr (by simp [e]))⟩
      · exact ⟨(hu.block _ (block_lt (hw.keep p hp).1) (by simpa using hk p hp)).trans (hw.keep p hp).1, .inl ⟨p, by simp [hp], rfl⟩⟩
    · rcases hg' with rfl | rfl
      · exact hk p hp
      · have := block_lt (hw.keep p hp).1; omega
    · rcases hg' with rfl | rfl
      · exact hbs p hp hb
      · have := ((hw.bat p hp).2 _ hb).2; omega

theorem Ws.swap {p q : Loc × Sl} (h : Ws B w0 W (p :: q :: ss) ks bs) : Ws B w0 W (q :: p :: ss) ks bs := by
  have hav : ∀ k, k ∈ avoid (q :: p :: ss) ↔ k ∈ avoid (p :: q :: ss) := by
    intro k; simp only [avoid_cons]; constructor <;> (rintro (h | h | h) <;> simp [h])
  refine ⟨h.below, h.size, fun r hr => ?_, ?_, fun r hr => ⟨(h.keep r hr).1, fun hn => (h.keep r hr).2 ((hav _).1 hn)⟩, fun r hr => ⟨(h.bat r hr).1, fun b hb => ⟨fun hn => ((h.bat r hr).2 b hb).1 ((hav _).1 hn), ((h.bat r hr).2 b hb).2⟩⟩⟩
  · have := h.on r (by simp only [List.mem_cons] at hr ⊢; rcases hr with h | h | h <;> simp [h])
    exact ⟨this.1, this.2.avoid (fun k hk => (outs_iff _ _ k).2 (((outs_iff _ _ k).1 hk).imp (hav k).1 id))⟩
  · have hp := h.apart
    simp only [List.pairwise_cons, List.mem_cons] at hp ⊢
    obtain ⟨h1, h2, h3⟩ := hp
    refine ⟨fun r hr => ?_, fun r hr => h1 r (.inr hr), h3⟩
    rcases hr with rfl | hr
    · intro k hk hn; exact h1 _ (.inl rfl) k hn hk
    · exact h2 r hr

/-- A step of the first slot. -/
theorem ws_step {L : Loc} {st st' : Sl} (h : Ws B w0 W ((L, st) :: ss) ks bs) (hu : Upd L.M W W') (hon : On W' L st' (outs ((L, st) :: ss) ks)) : Ws B w0 W' ((L, st') :: ss) ks bs where
  below := h.below.trans (hu.belowB h.size (h.on (L, st) (by simp)).1)
  size := Nat.le_trans h.size hu.size
  on := by
    intro p hp
    rcases List.mem_cons.1 hp with rfl | hp
    · exact ⟨(h.on (L, st) (by simp)).1, hon⟩
    · obtain ⟨h1, h2⟩ := h.on p (List.mem_cons_of_mem _ hp)
      refine ⟨h1, h2.upd hu (fun k hk => ⟨fun hn => ?_, mem_outs (mem_avoid (p := (L, st)) (by simp) hk)⟩)⟩
      exact (List.pairwise_cons.1 h.apart).1 p hp k hk hn
  apart := by
    have := h.apart
    rw [List.pairwise_cons] at this ⊢
    exact this
  keep := fun p hp => ⟨(hu.block _ (block_lt (h.keep p hp).1) (fun hn => (h.keep p hp).2 (mem_avoid (p := (L, st)) (by simp) hn))).trans (h.keep p hp).1, (h.keep p hp).2⟩
  bat := fun p hp => ⟨(h.bat p hp).1.upd hu (fun b hb hn => ((h.bat p hp).2 b hb).1 (mem_avoid (p := (L, st)) (by simp) hn)), fun b hb => ⟨((h.bat p hp).2 b hb).1, Nat.lt_of_lt_of_le ((h.bat p hp).2 b hb).2 hu.size⟩⟩

theorem Ws.start (hb : Below B w0 W) (hB : B ≤ W.heap.size) : Ws B w0 W [] [] [] := ⟨hb, hB, by simp, .nil, by simp, by simp⟩

theorem ws_new (f : Nat) (h1 : 1 ≤ f) (h2 : f ≤ 4) (h : Ws B w0 W ss ks bs) :
    Calls Try.prog 18 #[.int .i64 f] W fun e w' => ∃ L : Loc, e = .returned (.tuple #[L.ptr, .int .i64 0]) ∧ L.f = f ∧ Ws B w0 w' ((L, emptySl f) :: ss) ks bs := by
  refine (on_new f h1 h2 W).mono ?_
  rintro e w' ⟨L, he, hf, hu, hM, hon⟩
  have h' := h.upd0 hu
  have hlt := (hon [] (by simp)).lt
  have hav : ∀ k ∈ outs ((L, emptySl f) :: ss) ks, k < w'.heap.size := by
    intro k hk
    rcases (outs_iff _ _ k).1 hk with hk | ⟨q, hq, rfl⟩
    · rcases (avoid_cons _ _ _).1 hk with hk | hk
      · exact hlt k hk
      · exact h'.lt k hk
    · exact block_lt (h'.keep q hq).1
  have hold : ∀ k, k < W.heap.size → k ∉ L.M := fun k hk hn => by have := hM k hn; omega
  refine ⟨L, he, hf, h'.below, h'.size, fun p hp => ?_, ?_, fun p hp => ⟨(h'.keep p hp).1, fun hn => ?_⟩, fun p hp => ⟨(h'.bat p hp).1, fun b hb => ⟨fun hn => ?_, ((h'.bat p hp).2 b hb).2⟩⟩⟩
  · rcases List.mem_cons.1 hp with rfl | hp
    · exact ⟨fun k hk => Nat.le_trans h.size (hM k hk), hon _ hav⟩
    · obtain ⟨q1, D, q2, q3, q4⟩ := h.on p hp
      refine ⟨q1, D, ?_, fun k hk hn => ?_, hav⟩
      · have hm : ∀ k ∈ D, k < W.heap.size := q2.Dw
        exact q2.upd hu (by simp) (by simp) (by simp) (by simp)
      · rcases (outs_iff _ _ k).1 hn with hn | hn
        · rcases (avoid_cons _ _ _).1 hn with hn | hn
          · exact hold k (q2.Dw k hk) hn
          · exact q3 k hk (mem_outs hn)
        · exact q3 k hk ((outs_iff _ _ k).2 (.inr hn))
  · rw [List.pairwise_cons]
    exact ⟨fun q hq k hk hn => by have := hM k hk; have := (h.on q hq).2.lt k hn; omega, h.apart⟩
  · rcases (avoid_cons _ _ _).1 hn with hn | hn
    · exact hold _ (block_lt (h.keep p hp).1) hn
    · exact (h.keep p hp).2 hn
  · rcases (avoid_cons _ _ _).1 hn with hn | hn
    · exact hold _ ((h.bat p hp).2 b hb).2 hn
    · exact ((h.bat p hp).2 b hb).1 hn

theorem ws_pre {L : Loc} {st : Sl} (h : Ws B w0 W ((L, st) :: ss) ks bs) (v : Value) (rs : List Rq) (hb : (v, rs) ∈ bs) (hn : rs.length ≤ 100000) :
    Calls Try.prog 20 #[L.ptr, v] W fun e w' => e = .returned (.bool (!st.has)) ∧ Ws B w0 w' ((L, if st.has then st else { st with has := true, batch := rs }) :: ss) ks bs := by
  refine (on_pre (h.on (L, st) (by simp)).2 v rs (h.bat _ hb).1 hn).mono ?_
  rintro e w' ⟨he, hu, hon⟩
  exact ⟨he, ws_step h hu hon⟩

theorem ws_vote {L : Loc} {st : Sl} (h : Ws B w0 W ((L, st) :: ss) ks bs) (kind node sl : Int) (v : Value) (rs : List Rq) (hb : (v, rs) ∈ bs) (hn : rs.length ≤ 100000) :
    Calls Try.prog 22 #[L.ptr, .int .i64 kind, .int .i64 node, .int .i64 sl, v] W fun e w' => e = .returned (.bool (canVote st kind node)) ∧ Ws B w0 w' ((L, voteS st kind node sl rs) :: ss) ks bs := by
  refine (on_vote (h.on (L, st) (by simp)).2 kind node sl v rs (h.bat _ hb).1 hn).mono ?_
  rintro e w' ⟨he, hu, hon⟩
  exact ⟨he, ws_step h hu hon⟩

theorem ws_voted {L : Loc} {st : Sl} (h : Ws B w0 W ((L, st) :: ss) ks bs) (kind node : Int) :
    Calls Try.prog 28 #[L.ptr, .int .i64 kind, .int .i64 node] W fun e w' => e = .returned (.bool (votedB (listOf st kind) node)) ∧ W = w' := on_voted (h.on (L, st) (by simp)).2 kind node

theorem ws_chosen {L : Loc} {st : Sl} (h : Ws B w0 W ((L, st) :: ss) ks bs) :
    Calls Try.prog 29 #[L.ptr] W fun e w' => ∃ u, e = .returned (.tuple #[u, .bool st.has]) ∧ Upd [] W w' ∧ Ws B w0 w' ((L, st) :: ss) ks bs ∧ Bat w' u (chosenS st) := by
  refine (on_chosen (h.on (L, st) (by simp)).2).mono ?_
  rintro e w' ⟨u, he, hu, hon, hb, hn⟩
  exact ⟨u, he, hu, h.upd0 hu, hb⟩

theorem ws_prepared {L : Loc} {st : Sl} (h : Ws B w0 W ((L, st) :: ss) ks bs) :
    Calls Try.prog 23 #[L.ptr] W fun e w' => ∃ u, e = .returned (.tuple #[u, .bool (preparedS L.f st).isSome]) ∧ Upd [] W w' ∧ Ws B w0 w' ((L, st) :: ss) ks bs ∧ Vts w' u ((preparedS L.f st).getD []) := by
  refine (on_prepared (h.on (L, st) (by simp)).2).mono ?_
  rintro e w' ⟨u, he, hu, hon, hb, hn⟩
  exact ⟨u, he, hu, h.upd0 hu, hb⟩

theorem ws_committed {L : Loc} {st : Sl} (h : Ws B w0 W ((L, st) :: ss) ks bs) :
    Calls Try.prog 24 #[L.ptr] W fun e w' => ∃ v u, e = .returned (.tuple #[v, u, .bool (committedS L.f st).isSome]) ∧ Upd [] W w' ∧ Ws B w0 w' ((L, st) :: ss) ks bs ∧ Bat w' v (batchOf (committedS L.f st)) ∧ Vts w' u (votesOf (committedS L.f st)) := by
  refine (on_committed (h.on (L, st) (by simp)).2).mono ?_
  rintro e w' ⟨v, u, he, hu, hon, q1, q2, _, _⟩
  exact ⟨v, u, he, hu, h.upd0 hu, q1, q2⟩

end
end Go.Proofs.Ytdeadekeffficaa
