/- The slot in memory, and what its functions do to it. -/
import Derived.Test.YtdeadekeffficaaEnough
namespace Go.Proofs.Ytdeadekeffficaa
open Go.RowKit Go.Heap

/-- A slot, as the document has it. -/
structure Sl where
  has : Bool
  batch : List Rq
  ps : List Vt
  cs : List Vt

def noVt : Vt := ⟨false, 0, []⟩

/-- The slot s in memory: its own block s, its votes in blocks bp and bc, its batches in blocks of D. -/
structure SlotAt (w : World) (s bp bc cp cq : Nat) (f : Nat) (st : Sl) (D : List Nat) : Prop where
  f1 : 1 ≤ f
  f2 : f ≤ 4
  own : ∃ v, w.heap[s]? = some (.cells #[.int .i64 f, .bool st.has, v, .slice (some ⟨bp, 0, none⟩) (3 * f + 1) cp, .slice (some ⟨bc, 0, none⟩) (3 * f + 1) cq] 105 (0, 0)) ∧ Bat w v st.batch ∧ ∀ k ∈ blkOf v, k ∈ D
  ps : VotesAt w bp st.ps D
  cs : VotesAt w bc st.cs D
  pl : st.ps.length = 3 * f + 1
  cl : st.cs.length = 3 * f + 1
  sp : s ≠ bp
  sc : s ≠ bc
  pc : bp ≠ bc
  Ds : s ∉ D
  Dp : bp ∉ D
  Dc : bc ∉ D
  Dw : ∀ k ∈ D, k < w.heap.size
  small : st.batch.length ≤ 100000 ∧ (∀ t ∈ st.ps, t.batch.length ≤ 100000) ∧ ∀ t ∈ st.cs, t.batch.length ≤ 100000

theorem SlotAt.upd {w w' : World} {M : List Nat} {s bp bc cp cq f : Nat} {st : Sl} {D : List Nat} (h : SlotAt w s bp bc cp cq f st D) (hu : Upd M w w') (h1 : s ∉ M) (h2 : bp ∉ M) (h3 : bc ∉ M) (hD : ∀ k ∈ D, k ∉ M) : SlotAt w' s bp bc cp cq f st D := by
  obtain ⟨v, a1, a2, a3⟩ := h.own
  exact { h with
    own := ⟨v, by rw [hu.block s (block_lt a1) h1]; exact a1, a2.upd hu (fun k hk => hD k (a3 k hk)), a3⟩
    ps := h.ps.upd hu h2 hD
    cs := h.cs.upd hu h3 hD
    Dw := fun k hk => Nat.lt_of_lt_of_le (h.Dw k hk) hu.size }

/-- The cells that the walk wants. -/
theorem SlotAt.cells {w : World} {s bp bc cp cq f : Nat} {st : Sl} {D : List Nat} (h : SlotAt w s bp bc cp cq f st D) :
    ∃ ao cap, s < w.heap.size ∧ bp < w.heap.size ∧ bc < w.heap.size ∧ w.cell? ⟨s, 0, none⟩ = some (.int .i64 f) ∧ w.cell? ⟨s, 1, none⟩ = some (.bool st.has) ∧ w.cell? ⟨s, 2, none⟩ = some (.slice ao st.batch.length cap) ∧
      w.cell? ⟨s, 3, none⟩ = some (.slice (some ⟨bp, 0, none⟩) (3 * f + 1) cp) ∧ w.cell? ⟨s, 4, none⟩ = some (.slice (some ⟨bc, 0, none⟩) (3 * f + 1) cq) ∧ (∀ o, w.frozen? ⟨s, o, none⟩ = false) ∧
      Bat w (.slice ao st.batch.length cap) st.batch ∧ (∀ k ∈ blkOf (.slice ao st.batch.length cap), k ∈ D) ∧
      w.heap[s]? = some (.cells #[.int .i64 f, .bool st.has, .slice ao st.batch.length cap, .slice (some ⟨bp, 0, none⟩) (3 * f + 1) cp, .slice (some ⟨bc, 0, none⟩) (3 * f + 1) cq] 105 (0, 0)) := by
  obtain ⟨v, a1, a2, a3⟩ := h.own
  obtain ⟨ao, cap, rfl⟩ := bat_form a2
  obtain ⟨arr, p1, _, _⟩ := h.ps
  obtain ⟨arr', c1, _, _⟩ := h.cs
  exact ⟨ao, cap, block_lt a1, block_lt p1, block_lt c1, by rw [block_cell a1]; rfl, by rw [block_cell a1]; rfl, by rw [block_cell a1]; rfl, by rw [block_cell a1]; rfl, by rw [block_cell a1]; rfl, block_frozen a1, a2, a3, a1⟩

/-! ### New, Reset -/

def zv (n : Nat) : Array Value := madeCells #[.bool false, .int .i64 0, .slice none 0 0] (n * 3)

theorem zv_size (n : Nat) : (zv n).size = n * 3 := by simp [zv, size_madeCells]

theorem zv_votes {w : World} {b n : Nat} {D : List Nat} (h : w.heap[b]? = some (.cells (zv n) 109 (0, 0))) : VotesAt w b (List.replicate n noVt) D := by
  refine ⟨zv n, h, by rw [zv_size, List.length_replicate]; exact Nat.le_refl _, fun i t hi => ?_⟩
  have hin : i < n := by simpa using (List.getElem?_eq_some_iff.1 hi).1
  rw [List.getElem?_replicate, if_pos hin] at hi
  cases hi
  have key : ∀ j, j < n * 3 → (zv n)[j]? = some ((#[.bool false, .int .i64 0, .slice none 0 0] : Array Value)[j % 3]!) := by
    intro j hj
    simp [zv, madeCells, hj]
  refine ⟨.slice none 0 0, ?_, ?_, ?_, Reads.nil _ _, by simp [blkOf]⟩
  · rw [key _ (by omega), show i * 3 % 3 = 0 by omega]; rfl
  · rw [key _ (by omega), show (i * 3 + 1) % 3 = 1 by omega]; rfl
  · rw [key _ (by omega), show (i * 3 + 2) % 3 = 2 by omega]; rfl

theorem Try.infoSv : (Try.prog.info? 109).map (fun i => (i.zero, i.size, i.bytes)) = some (some (.agg #[.bool false, .int .i64 0, .slice none 0 0]), 3, 40) := by kernel_rfl

theorem run_make_votes (f : Nat) (h2 : f ≤ 4) (wx : World) : (Instr.makeSlice 103 (.int .i64 (3 * (f : Int) + 1)) (.int .i64 (3 * (f : Int) + 1))).run Try.prog wx = .ok (.slice (some ⟨wx.heap.size, 0, none⟩) (3 * f + 1) (3 * f + 1)) (wx.alloc (.cells (zv (3 * f + 1)) 109)) := by
  obtain ⟨i0, hi, hz0, hz1, hz2⟩ := info_parts Try.infoSv
  have := run_make (P := Try.prog) wx 103 109 i0 _ Try.underlying103 hi hz0 .i64 .i64 (3 * (f : Int) + 1) (3 * (f : Int) + 1) (by omega) (by omega) (by rw [hz2]; omega) (by omega)
  rw [show (3 * (f : Int) + 1).toNat = 3 * f + 1 by omega, hz1] at this
  exact this

/-- What Reset leaves. -/
def ResetPost (w : World) (s f : Nat) (e : Ending) (w' : World) : Prop :=
  e = .returned (.tuple #[]) ∧ ∃ bp bc, bp ≠ bc ∧ w.heap.size ≤ bp ∧ w.heap.size ≤ bc ∧ Upd [s] w w' ∧
    w'.heap[s]? = some (.cells #[.int .i64 f, .bool false, .slice none 0 0, .slice (some ⟨bp, 0, none⟩) (3 * f + 1) (3 * f + 1), .slice (some ⟨bc, 0, none⟩) (3 * f + 1) (3 * f + 1)] 105 (0, 0)) ∧
    w'.heap[bp]? = some (.cells (zv (3 * f + 1)) 109 (0, 0)) ∧ w'.heap[bc]? = some (.cells (zv (3 * f + 1)) 109 (0, 0))

set_option maxHeartbeats 400000 in
theorem reset_walk (s : Nat) (f : Nat) (h1 : 1 ≤ f) (h2 : f ≤ 4) (w : World) (a1 a2 a3 a4 : Value) (hb : w.heap[s]? = some (.cells #[.int .i64 f, a1, a2, a3, a4] 105 (0, 0))) :
    Calls Try.prog 33 #[.pointer (some ⟨s, 0, none⟩)] w (ResetPost w s f) := by
  have hs : s < w.heap.size := block_lt hb
  have c0 : w.cell? ⟨s, 0, none⟩ = some (.int .i64 f) := by rw [block_cell hb]; rfl
  have c1 : w.cell? ⟨s, 1, none⟩ = some a1 := by rw [block_cell hb]; rfl
  have c2 : w.cell? ⟨s, 2, none⟩ = some a2 := by rw [block_cell hb]; rfl
  have c3 : w.cell? ⟨s, 3, none⟩ = some a3 := by rw [block_cell hb]; rfl
  have c4 : w.cell? ⟨s, 4, none⟩ = some a4 := by rw [block_cell hb]; rfl
  have f1 := block_frozen hb 1
  have f2 := block_frozen hb 2
  have f3 := block_frozen hb 3
  have f4 := block_frozen hb 4
  have HB := Lib.hid hb
  clear hb
  have hmk := fun wx => run_make_votes f h2 wx
  go_enter Try.func33, Try.ntmps33
  go_wp2_with fail
  refine (nodes_any f _ (by omega) (by omega)).mono ?_
  rintro e w' ⟨rfl, rfl⟩
  go_wp2_with fail
  go_region
  all_goals go_wp2
  all_goals go_end0
  · refine ⟨rfl, w.heap.size, w.heap.size + 1, by omega, by omega, by omega, ?_, ?_, ?_, ?_⟩
    · exact (((((((Upd.refl _ _).setCell (.inl (by simp)) _).setCell (.inl (by simp)) _).setCell (.inl (by simp)) _).setCell (.inl (by simp)) _).alloc _).alloc _).drew
    · rw [hp_drew, hp_old (by simp; omega), hp_old (by simp; omega), hp_same rfl, hp_same rfl, hp_same rfl, hp_same rfl, HB.out]; rfl
    · rw [hp_drew, hp_old (by simp), hp_new (by simp)]
    · rw [hp_drew, hp_new (by simp)]
  · refine ⟨rfl, w.heap.size + 1, w.heap.size, by omega, by omega, by omega, ?_, ?_, ?_, ?_⟩
    · exact (((((((Upd.refl _ _).setCell (.inl (by simp)) _).setCell (.inl (by simp)) _).setCell (.inl (by simp)) _).setCell (.inl (by simp)) _).alloc _).alloc _).drew
    · rw [hp_drew, hp_old (by simp; omega), hp_old (by simp; omega), hp_same rfl, hp_same rfl, hp_same rfl, hp_same rfl, HB.out]; rfl
    · rw [hp_drew, hp_new (by simp)]
    · rw [hp_drew, hp_old (by simp), hp_new (by simp)]

def emptySl (f : Nat) : Sl := ⟨false, [], List.replicate (3 * f + 1) noVt, List.replicate (3 * f + 1) noVt⟩

theorem slot_empty {w : World} {s bp bc f : Nat} (h1 : 1 ≤ f) (h2 : f ≤ 4) (hs : w.heap[s]? = some (.cells #[.int .i64 f, .bool false, .slice none 0 0, .slice (some ⟨bp, 0, none⟩) (3 * f + 1) (3 * f + 1), .slice (some ⟨bc, 0, none⟩) (3 * f + 1) (3 * f + 1)] 105 (0, 0)))
    (hp : w.heap[bp]? = some (.cells (zv (3 * f + 1)) 109 (0, 0))) (hc : w.heap[bc]? = some (.cells (zv (3 * f + 1)) 109 (0, 0))) (e1 : s ≠ bp) (e2 : s ≠ bc) (e3 : bp ≠ bc) : SlotAt w s bp bc (3 * f + 1) (3 * f + 1) f (emptySl f) [] where
  f1 := h1
  f2 := h2
  own := ⟨_, hs, Reads.nil _ _, by simp [blkOf]⟩
  ps := zv_votes hp
  cs := zv_votes hc
  pl := by simp [emptySl]
  cl := by simp [emptySl]
  sp := e1
  sc := e2
  pc := e3
  Ds := by simp
  Dp := by simp
  Dc := by simp
  Dw := by simp
  small := by
    refine ⟨by simp [emptySl], ?_, ?_⟩
    · intro t ht; simp [emptySl] at ht; simp [ht, noVt]
    · intro t ht; simp [emptySl] at ht; simp [ht, noVt]

set_option maxHeartbeats 400000 in
theorem slot_new (f : Nat) (h1 : 1 ≤ f) (h2 : f ≤ 4) (w : World) :
    Calls Try.prog 18 #[.int .i64 f] w fun e w' => ∃ s bp bc, e = .returned (.tuple #[.pointer (some ⟨s, 0, none⟩), .int .i64 0]) ∧ Upd [] w w' ∧ w.heap.size ≤ s ∧ w.heap.size ≤ bp ∧ w.heap.size ≤ bc ∧ SlotAt w' s bp bc (3 * f + 1) (3 * f + 1) f (emptySl f) [] := by
  go_enter Try.func18, Try.ntmps18
  go_wp2_with fail
  refine (reset_walk w.heap.size f h1 h2 _ _ _ _ _ (heap_alloc_new w _)).mono ?_
  rintro e w1 ⟨rfl, bp, bc, e1, e2, e3, e4, e5, e6, e7⟩
  simp only [hs_alloc] at e2 e3
  have E5 := Lib.hid e5
  have E6 := Lib.hid e6
  have E7 := Lib.hid e7
  clear e5 e6 e7
  go_wp2_with fail
  go_ret2
  exact ⟨w.heap.size, bp, bc, rfl, ((Upd.refl _ _).alloc _).then e4 (by intro i hi; simp at hi; omega), Nat.le_refl _, by omega, by omega, slot_empty h1 h2 E5.out E6.out E7.out (by omega) (by omega) e1⟩

theorem slot_reset {w : World} {s bp bc cp cq f : Nat} {st : Sl} {D : List Nat} (h : SlotAt w s bp bc cp cq f st D) :
    Calls Try.prog 33 #[.pointer (some ⟨s, 0, none⟩)] w fun e w' => ∃ bp' bc', e = .returned (.tuple #[]) ∧ Upd [s] w w' ∧ w.heap.size ≤ bp' ∧ w.heap.size ≤ bc' ∧ SlotAt w' s bp' bc' (3 * f + 1) (3 * f + 1) f (emptySl f) [] := by
  obtain ⟨v, a1, a2, a3⟩ := h.own
  refine (reset_walk s f h.f1 h.f2 w _ _ _ _ a1).mono ?_
  rintro e w1 ⟨rfl, bp', bc', e1, e2, e3, e4, e5, e6, e7⟩
  have := block_lt a1
  exact ⟨bp', bc', rfl, e4, e2, e3, slot_empty h.f1 h.f2 e5 e6 e7 (by omega) (by omega) e1⟩

/-! ### Pre, Chosen -/

theorem bat_lt {w : World} {v : Value} {rs : List Rq} (h : Bat w v rs) (hp : 0 < rs.length) : ∀ k ∈ blkOf v, k < w.heap.size := by
  obtain ⟨ao, cap, rfl, _, _, _, _, h5⟩ := h
  obtain ⟨b, o, rfl, hb, _⟩ := h5 hp
  intro k hk
  simp [blkOf] at hk
  omega

/-- The chosen batch is laid into the slot. -/
theorem slot_with {w1 w2 : World} {s bp bc cp cq f W : Nat} {st : Sl} {D : List Nat} {ao' : Option Addr} {rs : List Rq} {cap' : Nat} {v : Value} (h : SlotAt w1 s bp bc cp cq f st D)
    (hw2 : w2 = (w1.setCell ⟨s, 1, none⟩ (.bool true)).setCell ⟨s, 2, none⟩ (.slice ao' rs.length cap'))
    (own : w1.heap[s]? = some (.cells #[.int .i64 f, .bool st.has, v, .slice (some ⟨bp, 0, none⟩) (3 * f + 1) cp, .slice (some ⟨bc, 0, none⟩) (3 * f + 1) cq] 105 (0, 0)))
    (hb : Bat w1 (.slice ao' rs.length cap') rs) (hn : ∀ k ∈ blkOf (.slice ao' rs.length cap'), W ≤ k ∧ k < w1.heap.size) (l1 : s < W) (l2 : bp < W) (l3 : bc < W) (hl : rs.length ≤ 100000) :
    SlotAt w2 s bp bc cp cq f { st with has := true, batch := rs } (blkOf (.slice ao' rs.length cap') ++ D) := by
  have HU : Upd [s] w1 w2 := by rw [hw2]; exact ((Upd.refl _ _).setCell (.inl (by simp)) _).setCell (.inl (by simp)) _
  have hbs : ∀ b ∈ blkOf (.slice ao' rs.length cap'), b ∉ [s] := by
    intro b hb e
    have := hn b hb
    simp at e
    omega
  have hDs : ∀ k ∈ D, k ∉ [s] := fun k hk e => by
    simp at e
    subst e
    exact h.Ds hk
  have hD' : ∀ x, x < W → x ∉ D → x ∉ blkOf (.slice ao' rs.length cap') ++ D := by
    intro x hx hxD hin
    rcases List.mem_append.1 hin with h1 | h1
    · have := hn x h1; omega
    · exact hxD h1
  have ps := h.ps.upd HU (by simp; exact fun e => h.sp e.symm) hDs
  have cs := h.cs.upd HU (by simp; exact fun e => h.sc e.symm) hDs
  have wid : ∀ {b : Nat} {vs : List Vt}, VotesAt w2 b vs D → VotesAt w2 b vs (blkOf (.slice ao' rs.length cap') ++ D) := by
    intro b vs ⟨arr, a1, a2, a3⟩
    refine ⟨arr, a1, a2, fun i t hi => ?_⟩
    obtain ⟨v, c1, c2, c3, c4, c5⟩ := a3 i t hi
    exact ⟨v, c1, c2, c3, c4, fun k hk => List.mem_append_right _ (c5 k hk)⟩
  exact {
    f1 := h.f1
    f2 := h.f2
    own := ⟨.slice ao' rs.length cap', by rw [hw2, hp_same rfl, hp_same rfl, own]; rfl, hb.upd HU hbs, fun k hk => List.mem_append_left _ hk⟩
    ps := wid ps
    cs := wid cs
    pl := h.pl
    cl := h.cl
    sp := h.sp
    sc := h.sc
    pc := h.pc
    Ds := hD' s l1 h.Ds
    Dp := hD' bp l2 h.Dp
    Dc := hD' bc l3 h.Dc
    Dw := by
      intro k hk
      have hs := HU.size
      rcases List.mem_append.1 hk with h1 | h1
      · have := hn k h1; omega
      · have := h.Dw k h1; omega
    small := ⟨hl, h.small.2⟩ }

set_option maxHeartbeats 400000 in
theorem slot_pre {w : World} {s bp bc cp cq f : Nat} {st : Sl} {D : List Nat} (h : SlotAt w s bp bc cp cq f st D) (v : Value) (rs : List Rq) (hb : Bat w v rs) (hn : rs.length ≤ 100000) :
    Calls Try.prog 20 #[.pointer (some ⟨s, 0, none⟩), v] w fun e w' => e = .returned (.bool (!st.has)) ∧ Upd [s] w w' ∧ ∃ D', (∀ k ∈ D', k ∈ D ∨ w.heap.size ≤ k) ∧
      SlotAt w' s bp bc cp cq f (if st.has then st else { st with has := true, batch := rs }) D' := by
  have H := Lib.hid h
  obtain ⟨ao, cap, l1, l2, l3, c0, c1, c2, c3, c4, fz, b1, b2, own⟩ := h.cells
  have B1 := Lib.hid b1
  have OWN := Lib.hid own
  have HB := Lib.hid hb
  have fz1 := fz 1
  have fz2 := fz 2
  clear b1 own hb fz
  cases hhas : st.has with
  | true =>
    rw [hhas] at c1
    clear hhas
    go_enter Try.func20, Try.ntmps20
    go_wp2_with fail
    go_ret
    exact ⟨rfl, Upd.refl _ _, D, fun k hk => .inl hk, by simpa using H.out⟩
  | false =>
    rw [hhas] at c1
    have HH := Lib.hid hhas
    clear hhas
    go_enter Try.func20, Try.ntmps20
    go_wp2_with fail
    refine (fresh_any v rs _ hn HB.out).mono ?_
    rintro e w1 ⟨v', rfl, hu, hbat, hnew⟩
    obtain ⟨ao', cap', rfl⟩ := bat_form hbat
    have HBAT := Lib.hid hbat
    clear hbat
    have k1 := (hu.cell (o := 1) l1 (by simp)).trans c1
    have k2 := (hu.cell (o := 2) l1 (by simp)).trans c2
    have g1 := (hu.frozen (o := 1) l1 (by simp)).trans fz1
    have g2 := (hu.frozen (o := 2) l1 (by simp)).trans fz2
    have OWN1 := Lib.hid ((hu.block s l1 (by simp)).trans OWN.out)
    have H1 := Lib.hid (H.out.upd hu (by simp) (by simp) (by simp) (by simp))
    have hsz := hu.size
    clear c0 c1 c2 c3 c4 fz1 fz2
    go_wp2_with fail
    go_ret
    have HU : Upd [s] w1 ((w1.setCell ⟨s, 1, none⟩ (.bool true)).setCell ⟨s, 2, none⟩ (.slice ao' rs.length cap')) := ((Upd.refl _ _).setCell (.inl (by simp)) _).setCell (.inl (by simp)) _
    have H2 := H1.out
    have hnD : ∀ k ∈ blkOf (.slice ao' rs.length cap'), w.heap.size ≤ k := fun k hk => (hnew k hk).1
    refine ⟨rfl, (hu.mono (by simp)).trans HU, blkOf (.slice ao' rs.length cap') ++ D, ?_, ?_⟩
    · intro k hk
      rcases List.mem_append.1 hk with hk | hk
      · exact .inr (hnD k hk)
      · exact .inl hk
    · exact slot_with H2 rfl OWN1.out HBAT.out hnew l1 l2 l3 hn

/-! ### votes, Vote, Voted -/

set_option maxHeartbeats 400000 in
theorem votes_any {w : World} {s bp bc cp cq f : Nat} {st : Sl} {D : List Nat} (h : SlotAt w s bp bc cp cq f st D) (kind : Int) :
    Calls Try.prog 57 #[.pointer (some ⟨s, 0, none⟩), .int .i64 kind] w fun e w' =>
      e = .returned (if kind = 4 then .slice (some ⟨bp, 0, none⟩) (3 * f + 1) cp else if kind = 5 then .slice (some ⟨bc, 0, none⟩) (3 * f + 1) cq else .slice none 0 0) ∧ w = w' := by
  obtain ⟨ao, cap, l1, l2, l3, c0, c1, c2, c3, c4, fz, b1, b2, own⟩ := h.cells
  clear b1 own fz b2
  by_cases h4 : kind = 4
  · subst h4
    go_enter Try.func57, Try.ntmps57
    go_wp2_with fail
    go_ret
    exact ⟨rfl, rfl⟩
  · by_cases h5 : kind = 5
    · subst h5
      go_enter Try.func57, Try.ntmps57
      go_wp2_with fail
      go_ret
      exact ⟨rfl, rfl⟩
    · have h4b : (kind == 4) = false := by simp [h4]
      have h5b : (kind == 5) = false := by simp [h5]
      have H4 := Lib.hid h4
      have H5 := Lib.hid h5
      clear h4 h5
      go_enter Try.func57, Try.ntmps57
      go_wp2_with fail
      go_ret
      exact ⟨rfl, rfl⟩

/-- Has the node voted, in this list? -/
def votedB (l : List Vt) (node : Int) : Bool := decide (0 ≤ node) && match l[node.toNat]? with | some t => t.has | none => false
def openB (l : List Vt) (node : Int) : Bool := decide (0 ≤ node) && match l[node.toNat]? with | some t => !t.has | none => false

def listOf (st : Sl) (kind : Int) : List Vt := if kind = 4 then st.ps else if kind = 5 then st.cs else []
def canVote (st : Sl) (kind node : Int) : Bool := openB (listOf st kind) node
def voteS (st : Sl) (kind node sl : Int) (rs : List Rq) : Sl :=
  if canVote st kind node then
    if kind = 4 then { st with ps := st.ps.set node.toNat ⟨true, sl, rs⟩ } else { st with cs := st.cs.set node.toNat ⟨true, sl, rs⟩ }
  else st

theorem votes_set {w w2 : World} {b : Nat} {vs : List Vt} {D : List Nat} {i : Nat} {sl : Int} {v' : Value} {rs : List Rq} (h : VotesAt w b vs D)
    (hw2 : w2 = ((w.setCell ⟨b, i * 3, none⟩ (.bool true)).setCell ⟨b, i * 3 + 1, none⟩ (.int .i64 sl)).setCell ⟨b, i * 3 + 2, none⟩ v') (hi : i < vs.length) (hb : Bat w v' rs) (hv : b ∉ blkOf v') (hD : b ∉ D) :
    VotesAt w2 b (vs.set i ⟨true, sl, rs⟩) (blkOf v' ++ D) := by
  have HU : Upd [b] w w2 := by rw [hw2]; exact (((Upd.refl _ _).setCell (.inl (by simp)) _).setCell (.inl (by simp)) _).setCell (.inl (by simp)) _
  obtain ⟨arr, a1, a2, a3⟩ := h
  refine ⟨((arr.setIfInBounds (i * 3) (.bool true)).setIfInBounds (i * 3 + 1) (.int .i64 sl)).setIfInBounds (i * 3 + 2) v', ?_, by simpa using a2, fun j t hj => ?_⟩
  · rw [hw2, hp_same rfl, hp_same rfl, hp_same rfl, a1]; rfl
  · have hjl : j < vs.length := by simpa using (List.getElem?_eq_some_iff.1 hj).1
    by_cases hji : j = i
    · subst hji
      rw [List.getElem?_set_self hjl] at hj
      cases hj
      refine ⟨v', ?_, ?_, ?_, hb.upd HU (by intro k hk e; simp at e; subst e; exact hv hk), fun k hk => List.mem_append_left _ hk⟩
      · rw [Array.getElem?_setIfInBounds_ne (by omega), Array.getElem?_setIfInBounds_ne (by omega), Array.getElem?_setIfInBounds_self, if_pos (by omega)]
      · rw [Array.getElem?_setIfInBounds_ne (by omega), Array.getElem?_setIfInBounds_self, if_pos (by simp; omega)]
      · rw [Array.getElem?_setIfInBounds_self, if_pos (by simp; omega)]
    · rw [List.getElem?_set_ne (Ne.symm hji)] at hj
      obtain ⟨v, c1, c2, c3, c4, c5⟩ := a3 j t hj
      refine ⟨v, ?_, ?_, ?_, c4.upd HU (by intro k hk e; simp at e; subst e; exact hD (c5 k hk)), fun k hk => List.mem_append_right _ (c5 k hk)⟩
      · rw [Array.getElem?_setIfInBounds_ne (by omega), Array.getElem?_setIfInBounds_ne (by omega), Array.getElem?_setIfInBounds_ne (by omega)]; exact c1
      · rw [Array.getElem?_setIfInBounds_ne (by omega), Array.getElem?_setIfInBounds_ne (by omega), Array.getElem?_setIfInBounds_ne (by omega)]; exact c2
      · rw [Array.getElem?_setIfInBounds_ne (by omega), Array.getElem?_setIfInBounds_ne (by omega), Array.getElem?_setIfInBounds_ne (by omega)]; exact c3

/-- What is written where a vote is counted. -/
def Stored (w w' : World) (b i : Nat) (sl : Int) (rs : List Rq) : Prop :=
  ∃ w1 ao cap, Upd [] w w1 ∧ Bat w1 (.slice ao rs.length cap) rs ∧ (∀ k ∈ blkOf (.slice ao rs.length cap), w.heap.size ≤ k ∧ k < w1.heap.size) ∧
    w' = ((w1.setCell ⟨b, i * 3, none⟩ (.bool true)).setCell ⟨b, i * 3 + 1, none⟩ (.int .i64 sl)).setCell ⟨b, i * 3 + 2, none⟩ (.slice ao rs.length cap)

set_option maxHeartbeats 400000 in
theorem vote_yes {w : World} {s bp bc cp cq f : Nat} {st : Sl} {D : List Nat} (h : SlotAt w s bp bc cp cq f st D) (kind : Int) (node : Nat) (sl : Int) (v : Value) (rs : List Rq) (b cb : Nat) (l : List Vt) (hl : l.length = 3 * f + 1)
    (hk : (if kind = 4 then .slice (some ⟨bp, 0, none⟩) (3 * f + 1) cp else if kind = 5 then .slice (some ⟨bc, 0, none⟩) (3 * f + 1) cq else .slice none 0 0 : Value) = .slice (some ⟨b, 0, none⟩) (3 * f + 1) cb)
    (hv : VotesAt w b l D) (t : Vt) (ht : l[node]? = some t) (hhas : t.has = false) (hb : Bat w v rs) (hn : rs.length ≤ 100000) :
    Calls Try.prog 22 #[.pointer (some ⟨s, 0, none⟩), .int .i64 kind, .int .i64 node, .int .i64 sl, v] w fun e w' => e = .returned (.bool true) ∧ Stored w w' b node sl rs := by
  have HB := Lib.hid hb
  obtain ⟨bv, c0, c1, c2, _, hbw, _, fz⟩ := hv.cells node t ht
  rw [hhas] at c0
  have H := Lib.hid h
  have hf2 := h.f2
  have hnl : node < 3 * f + 1 := by rw [← hl]; exact (List.getElem?_eq_some_iff.1 ht).1
  have q0 := fz (node * 3)
  have q1 := fz (node * 3 + 1)
  have q2 := fz (node * 3 + 2)
  have HK := Lib.hid hk
  clear hb hk ht hhas fz hl hv h
  have i1 : ¬ (node : Int) < 0 := by omega
  have i2 : (node : Int) < 3 * (f : Int) + 1 := by omega
  have i3 : ¬ ((3 * f + 1 : Nat) : Int) ≤ (node : Int) := by omega
  go_enter Try.func22, Try.ntmps22
  go_wp2_with fail
  refine (votes_any H.out kind).mono ?_
  rw [HK.out]
  rintro e w' ⟨rfl, rfl⟩
  go_wp2_with fail
  refine (fresh_any v rs _ hn HB.out).mono ?_
  rintro e w1 ⟨v', rfl, hu, hbat, hnew⟩
  obtain ⟨ao', cap', rfl⟩ := bat_form hbat
  have HBAT := Lib.hid hbat
  clear hbat
  have k0 := (hu.cell (o := node * 3) hbw (by simp)).trans c0
  have k1 := (hu.cell (o := node * 3 + 1) hbw (by simp)).trans c1
  have k2 := (hu.cell (o := node * 3 + 2) hbw (by simp)).trans c2
  have g0 := (hu.frozen (o := node * 3) hbw (by simp)).trans q0
  have g1 := (hu.frozen (o := node * 3 + 1) hbw (by simp)).trans q1
  have g2 := (hu.frozen (o := node * 3 + 2) hbw (by simp)).trans q2
  have HNEW := Lib.hid hnew
  clear c0 c1 c2 q0 q1 q2 hnew
  go_wp2_with fail
  go_ret
  exact ⟨rfl, w1, ao', cap', hu, HBAT.out, HNEW.out, rfl⟩

end Go.Proofs.Ytdeadekeffficaa
