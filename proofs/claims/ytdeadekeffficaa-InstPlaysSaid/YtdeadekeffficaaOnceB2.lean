/- Parts of the proof, one behind the other. -/
import Derived.Test.YtdeadekeffficaaOnceB1
import Derived.Deep.RegionHeld3
import Derived.Test.YtdeadekeffficaaRows
import Derived.WalkKit
import Derived.ProofKit
import Derived.OpenShut
import Derived.Carry
import Derived.Deep.Slices
import Derived.Deep.DeepCutAuto
import Derived.Deep.CutBlock
import Derived.Outline

/- The slot in memory, and what its functions do to it. -/
namespace Go.Proofs.Ytdeadekeffficaa
open Go.RowKit Go.Heap

/-- A slot, as the document has it. -/
structure Sl where
  has : Bool
  batch : List Rq
  ps : List Vt
  cs : List Vt

def noVt : Vt := ⟨false, 0, []⟩

/-- The slot s in memory: its own block s, its votes in blocks bp and bc, its batches in blocks of D. -/
structure SlotAt (w : World) (s bp bc cp cq : Nat) (f : Nat) (st : Sl) (D : List Nat) : Prop where
  f1 : 1 ≤ f
  f2 : f ≤ 4
  own : ∃ v, w.heap[s]? = some (.cells #[.int .i64 f, .bool st.has, v, .slice (some ⟨bp, 0, none⟩) (3 * f + 1) cp, .slice (some ⟨bc, 0, none⟩) (3 * f + 1) cq] 105 (0, 0)) ∧ Bat w v st.batch ∧ ∀ k ∈ blkOf v, k ∈ D
  ps : VotesAt w bp st.ps D
  cs : VotesAt w bc st.cs D
  pl : st.ps.length = 3 * f + 1
  cl : st.cs.length = 3 * f + 1
  sp : s ≠ bp
  sc : s ≠ bc
  pc : bp ≠ bc
  Ds : s ∉ D
  Dp : bp ∉ D
  Dc : bc ∉ D
  Dw : ∀ k ∈ D, k < w.heap.size
  small : st.batch.length ≤ 100000 ∧ (∀ t ∈ st.ps, t.batch.length ≤ 100000) ∧ ∀ t ∈ st.cs, t.batch.length ≤ 100000

theorem SlotAt.upd {w w' : World} {M : List Nat} {s bp bc cp cq f : Nat} {st : Sl} {D : List Nat} (h : SlotAt w s bp bc cp cq f st D) (hu : Upd M w w') (h1 : s ∉ M) (h2 : bp ∉ M) (h3 : bc ∉ M) (hD : ∀ k ∈ D, k ∉ M) : SlotAt w' s bp bc cp cq f st D := by
  obtain ⟨v, a1, a2, a3⟩ := h.own
  exact { h with
    own := ⟨v, by rw [hu.block s (block_lt a1) h1]; exact a1, a2.upd hu (fun k hk => hD k (a3 k hk)), a3⟩
    ps := h.ps.upd hu h2 hD
    cs := h.cs.upd hu h3 hD
    Dw := fun k hk => Nat.lt_of_lt_of_le (h.Dw k hk) hu.size }

/-- The cells that the walk wants. -/
theorem SlotAt.cells {w : World} {s bp bc cp cq f : Nat} {st : Sl} {D : List Nat} (h : SlotAt w s bp bc cp cq f st D) :
    ∃ ao cap, s < w.heap.size ∧ bp < w.heap.size ∧ bc < w.heap.size ∧ w.cell? ⟨s, 0, none⟩ = some (.int .i64 f) ∧ w.cell? ⟨s, 1, none⟩ = some (.bool st.has) ∧ w.cell? ⟨s, 2, none⟩ = some (.slice ao st.batch.length cap) ∧
      w.cell? ⟨s, 3, none⟩ = some (.slice (some ⟨bp, 0, none⟩) (3 * f + 1) cp) ∧ w.cell? ⟨s, 4, none⟩ = some (.slice (some ⟨bc, 0, none⟩) (3 * f + 1) cq) ∧ (∀ o, w.frozen? ⟨s, o, none⟩ = false) ∧
      Bat w (.slice ao st.batch.length cap) st.batch ∧ (∀ k ∈ blkOf (.slice ao st.batch.length cap), k ∈ D) ∧
      w.heap[s]? = some (.cells #[.int .i64 f, .bool st.has, .slice ao st.batch.length cap, .slice (some ⟨bp, 0, none⟩) (3 * f + 1) cp, .slice (some ⟨bc, 0, none⟩) (3 * f + 1) cq] 105 (0, 0)) := by
  obtain ⟨v, a1, a2, a3⟩ := h.own
  obtain ⟨ao, cap, rfl⟩ := bat_form a2
  obtain ⟨arr, p1, _, _⟩ := h.ps
  obtain ⟨arr', c1, _, _⟩ := h.cs
  exact ⟨ao, cap, block_lt a1, block_lt p1, block_lt c1, by rw [block_cell a1]; rfl, by rw [block_cell a1]; rfl, by rw [block_cell a1]; rfl, by rw [block_cell a1]; rfl, by rw [block_cell a1]; rfl, block_frozen a1, a2, a3, a1⟩

/-! ### New, Reset -/

def zv (n : Nat) : Array Value := madeCells #[.bool false, .int .i64 0, .slice none 0 0] (n * 3)

theorem zv_size (n : Nat) : (zv n).size = n * 3 := by simp [zv, size_madeCells]

theorem zv_votes {w : World} {b n : Nat} {D : List Nat} (h : w.heap[b]? = some (.cells (zv n) 109 (0, 0))) : VotesAt w b (List.replicate n noVt) D := by
  refine ⟨zv n, h, by rw [zv_size, List.length_replicate]; exact Nat.le_refl _, fun i t hi => ?_⟩
  have hin : i < n := by simpa using (List.getElem?_eq_some_iff.1 hi).1
  rw [List.getElem?_replicate, if_pos hin] at hi
  cases hi
  have key : ∀ j, j < n * 3 → (zv n)[j]? = some ((#[.bool false, .int .i64 0, .slice none 0 0] : Array Value)[j % 3]!) := by
    intro j hj
    simp [zv, madeCells, hj]
  refine ⟨.slice none 0 0, ?_, ?_, ?_, Reads.nil _ _, by simp [blkOf]⟩
  · rw [key _ (by omega), show i * 3 % 3 = 0 by omega]; rfl
  · rw [key _ (by omega), show (i * 3 + 1) % 3 = 1 by omega]; rfl
  · rw [key _ (by omega), show (i * 3 + 2) % 3 = 2 by omega]; rfl

theorem Try.infoSv : (Try.prog.info? 109).map (fun i => (i.zero, i.size, i.bytes)) = some (some (.agg #[.bool false, .int .i64 0, .slice none 0 0]), 3, 40) := by kernel_rfl

theorem run_make_votes (f : Nat) (h2 : f ≤ 4) (wx : World) : (Instr.makeSlice 103 (.int .i64 (3 * (f : Int) + 1)) (.int .i64 (3 * (f : Int) + 1))).run Try.prog wx = .ok (.slice (some ⟨wx.heap.size, 0, none⟩) (3 * f + 1) (3 * f + 1)) (wx.alloc (.cells (zv (3 * f + 1)) 109)) := by
  obtain ⟨i0, hi, hz0, hz1, hz2⟩ := info_parts Try.infoSv
  have := run_make (P := Try.prog) wx 103 109 i0 _ Try.underlying103 hi hz0 .i64 .i64 (3 * (f : Int) + 1) (3 * (f : Int) + 1) (by omega) (by omega) (by rw [hz2]; omega) (by omega)
  rw [show (3 * (f : Int) + 1).toNat = 3 * f + 1 by omega, hz1] at this
  exact this

/-- What Reset leaves. -/
def ResetPost (w : World) (s f : Nat) (e : Ending) (w' : World) : Prop :=
  e = .returned (.tuple #[]) ∧ ∃ bp bc, bp ≠ bc ∧ w.heap.size ≤ bp ∧ w.heap.size ≤ bc ∧ Upd [s] w w' ∧
    w'.heap[s]? = some (.cells #[.int .i64 f, .bool false, .slice none 0 0, .slice (some ⟨bp, 0, none⟩) (3 * f + 1) (3 * f + 1), .slice (some ⟨bc, 0, none⟩) (3 * f + 1) (3 * f + 1)] 105 (0, 0)) ∧
    w'.heap[bp]? = some (.cells (zv (3 * f + 1)) 109 (0, 0)) ∧ w'.heap[bc]? = some (.cells (zv (3 * f + 1)) 109 (0, 0))

set_option maxHeartbeats 400000 in
theorem reset_walk (s : Nat) (f : Nat) (h1 : 1 ≤ f) (h2 : f ≤ 4) (w : World) (a1 a2 a3 a4 : Value) (hb : w.heap[s]? = some (.cells #[.int .i64 f, a1, a2, a3, a4] 105 (0, 0))) :
    Calls Try.prog 33 #[.pointer (some ⟨s, 0, none⟩)] w (ResetPost w s f) := by
  have hs : s < w.heap.size := block_lt hb
  have c0 : w.cell? ⟨s, 0, none⟩ = some (.int .i64 f) := by rw [block_cell hb]; rfl
  have c1 : w.cell? ⟨s, 1, none⟩ = some a1 := by rw [block_cell hb]; rfl
  have c2 : w.cell? ⟨s, 2, none⟩ = some a2 := by rw [block_cell hb]; rfl
  have c3 : w.cell? ⟨s, 3, none⟩ = some a3 := by rw [block_cell hb]; rfl
  have c4 : w.cell? ⟨s, 4, none⟩ = some a4 := by rw [block_cell hb]; rfl
  have f1 := block_frozen hb 1
  have f2 := block_frozen hb 2
  have f3 := block_frozen hb 3
  have f4 := block_frozen hb 4
  have HB := Lib.hid hb
  clear hb
  have hmk := fun wx => run_make_votes f h2 wx
  go_enter Try.func33, Try.ntmps33
  go_wp2_with fail
  refine (nodes_any f _ (by omega) (by omega)).mono ?_
  rintro e w' ⟨rfl, rfl⟩
  go_wp2_with fail
  go_region
  all_goals go_wp2
  all_goals go_end0
  · refine ⟨rfl, w.heap.size, w.heap.size + 1, by omega, by omega, by omega, ?_, ?_, ?_, ?_⟩
    · exact (((((((Upd.refl _ _).setCell (.inl (by simp)) _).setCell (.inl (by simp)) _).setCell (.inl (by simp)) _).setCell (.inl (by simp)) _).alloc _).alloc _).drew
    · rw [hp_drew, hp_old (by simp; omega), hp_old (by simp; omega), hp_same rfl, hp_same rfl, hp_same rfl, hp_same rfl, HB.out]; rfl
    · rw [hp_drew, hp_old (by simp), hp_new (by simp)]
    · rw [hp_drew, hp_new (by simp)]
  · refine ⟨rfl, w.heap.size + 1, w.heap.size, by omega, by omega, by omega, ?_, ?_, ?_, ?_⟩
    · exact (((((((Upd.refl _ _).setCell (.inl (by simp)) _).setCell (.inl (by simp)) _).setCell (.inl (by simp)) _).setCell (.inl (by simp)) _).alloc _).alloc _).drew
    · rw [hp_drew, hp_old (by simp; omega), hp_old (by simp; omega), hp_same rfl, hp_same rfl, hp_same rfl, hp_same rfl, HB.out]; rfl
    · rw [hp_drew, hp_new (by simp)]
    · rw [hp_drew, hp_old (by simp), hp_new (by simp)]

def emptySl (f : Nat) : Sl := ⟨false, [], List.replicate (3 * f + 1) noVt, List.replicate (3 * f + 1) noVt⟩

theorem slot_empty {w : World} {s bp bc f : Nat} (h1 : 1 ≤ f) (h2 : f ≤ 4) (hs : w.heap[s]? = some (.cells #[.int .i64 f, .bool false, .slice none 0 0, .slice (some ⟨bp, 0, none⟩) (3 * f + 1) (3 * f + 1), .slice (some ⟨bc, 0, none⟩) (3 * f + 1) (3 * f + 1)] 105 (0, 0)))
    (hp : w.heap[bp]? = some (.cells (zv (3 * f + 1)) 109 (0, 0))) (hc : w.heap[bc]? = some (.cells (zv (3 * f + 1)) 109 (0, 0))) (e1 : s ≠ bp) (e2 : s ≠ bc) (e3 : bp ≠ bc) : SlotAt w s bp bc (3 * f + 1) (3 * f + 1) f (emptySl f) [] where
  f1 := h1
  f2 := h2
  own := ⟨_, hs, Reads.nil _ _, by simp [blkOf]⟩
  ps := zv_votes hp
  cs := zv_votes hc
  pl := by simp [emptySl]
  cl := by simp [emptySl]
  sp := e1
  sc := e2
  pc := e3
  Ds := by simp
  Dp := by simp
  Dc := by simp
  Dw := by simp
  small := by
    refine ⟨by simp [emptySl], ?_, ?_⟩
    · intro t ht; simp [emptySl] at ht; simp [ht, noVt]
    · intro t ht; simp [emptySl] at ht; simp [ht, noVt]

set_option maxHeartbeats 400000 in
theorem slot_new (f : Nat) (h1 : 1 ≤ f) (h2 : f ≤ 4) (w : World) :
    Calls Try.prog 18 #[.int .i64 f] w fun e w' => ∃ s bp bc, e = .returned (.tuple #[.pointer (some ⟨s, 0, none⟩), .int .i64 0]) ∧ Upd [] w w' ∧ w.heap.size ≤ s ∧ w.heap.size ≤ bp ∧ w.heap.size ≤ bc ∧ SlotAt w' s bp bc (3 * f + 1) (3 * f + 1) f (emptySl f) [] := by
  go_enter Try.func18, Try.ntmps18
  go_wp2_with fail
  refine (reset_walk w.heap.size f h1 h2 _ _ _ _ _ (heap_alloc_new w _)).mono ?_
  rintro e w1 ⟨rfl, bp, bc, e1, e2, e3, e4, e5, e6, e7⟩
  simp only [hs_alloc] at e2 e3
  have E5 := Lib.hid e5
  have E6 := Lib.hid e6
  have E7 := Lib.hid e7
  clear e5 e6 e7
  go_wp2_with fail
  go_ret2
  exact ⟨w.heap.size, bp, bc, rfl, ((Upd.refl _ _).alloc _).then e4 (by intro i hi; simp at hi; omega), Nat.le_refl _, by omega, by omega, slot_empty h1 h2 E5.out E6.out E7.out (by omega) (by omega) e1⟩

theorem slot_reset {w : World} {s bp bc cp cq f : Nat} {st : Sl} {D : List Nat} (h : SlotAt w s bp bc cp cq f st D) :
    Calls Try.prog 33 #[.pointer (some ⟨s, 0, none⟩)] w fun e w' => ∃ bp' bc', e = .returned (.tuple #[]) ∧ Upd [s] w w' ∧ w.heap.size ≤ bp' ∧ w.heap.size ≤ bc' ∧ SlotAt w' s bp' bc' (3 * f + 1) (3 * f + 1) f (emptySl f) [] := by
  obtain ⟨v, a1, a2, a3⟩ := h.own
  refine (reset_walk s f h.f1 h.f2 w _ _ _ _ a1).mono ?_
  rintro e w1 ⟨rfl, bp', bc', e1, e2, e3, e4, e5, e6, e7⟩
  have := block_lt a1
  exact ⟨bp', bc', rfl, e4, e2, e3, slot_empty h.f1 h.f2 e5 e6 e7 (by omega) (by omega) e1⟩

/-! ### Pre, Chosen -/

theorem bat_lt {w : World} {v : Value} {rs : List Rq} (h : Bat w v rs) (hp : 0 < rs.length) : ∀ k ∈ blkOf v, k < w.heap.size := by
  obtain ⟨ao, cap, rfl, _, _, _, _, h5⟩ := h
  obtain ⟨b, o, rfl, hb, _⟩ := h5 hp
  intro k hk
  simp [blkOf] at hk
  omega

/-- The chosen batch is laid into the slot. -/
theorem slot_with {w1 w2 : World} {s bp bc cp cq f W : Nat} {st : Sl} {D : List Nat} {ao' : Option Addr} {rs : List Rq} {cap' : Nat} {v : Value} (h : SlotAt w1 s bp bc cp cq f st D)
    (hw2 : w2 = (w1.setCell ⟨s, 1, none⟩ (.bool true)).setCell ⟨s, 2, none⟩ (.slice ao' rs.length cap'))
    (own : w1.heap[s]? = some (.cells #[.int .i64 f, .bool st.has, v, .slice (some ⟨bp, 0, none⟩) (3 * f + 1) cp, .slice (some ⟨bc, 0, none⟩) (3 * f + 1) cq] 105 (0, 0)))
    (hb : Bat w1 (.slice ao' rs.length cap') rs) (hn : ∀ k ∈ blkOf (.slice ao' rs.length cap'), W ≤ k ∧ k < w1.heap.size) (l1 : s < W) (l2 : bp < W) (l3 : bc < W) (hl : rs.length ≤ 100000) :
    SlotAt w2 s bp bc cp cq f { st with has := true, batch := rs } (blkOf (.slice ao' rs.length cap') ++ D) := by
  have HU : Upd [s] w1 w2 := by rw [hw2]; exact ((Upd.refl _ _).setCell (.inl (by simp)) _).setCell (.inl (by simp)) _
  have hbs : ∀ b ∈ blkOf (.slice ao' rs.length cap'), b ∉ [s] := by
    intro b hb e
    have := hn b hb
    simp at e
    omega
  have hDs : ∀ k ∈ D, k ∉ [s] := fun k hk e => by
    simp at e
    subst e
    exact h.Ds hk
  have hD' : ∀ x, x < W → x ∉ D → x ∉ blkOf (.slice ao' rs.length cap') ++ D := by
    intro x hx hxD hin
    rcases List.mem_append.1 hin with h1 | h1
    · have := hn x h1; omega
    · exact hxD h1
  have ps := h.ps.upd HU (by simp; exact fun e => h.sp e.symm) hDs
  have cs := h.cs.upd HU (by simp; exact fun e => h.sc e.symm) hDs
  have wid : ∀ {b : Nat} {vs : List Vt}, VotesAt w2 b vs D → VotesAt w2 b vs (blkOf (.slice ao' rs.length cap') ++ D) := by
    intro b vs ⟨arr, a1, a2, a3⟩
    refine ⟨arr, a1, a2, fun i t hi => ?_⟩
    obtain ⟨v, c1, c2, c3, c4, c5⟩ := a3 i t hi
    exact ⟨v, c1, c2, c3, c4, fun k hk => List.mem_append_right _ (c5 k hk)⟩
  exact {
    f1 := h.f1
    f2 := h.f2
    own := ⟨.slice ao' rs.length cap', by rw [hw2, hp_same rfl, hp_same rfl, own]; rfl, hb.upd HU hbs, fun k hk => List.mem_append_left _ hk⟩
    ps := wid ps
    cs := wid cs
    pl := h.pl
    cl := h.cl
    sp := h.sp
    sc := h.sc
    pc := h.pc
    Ds := hD' s l1 h.Ds
    Dp := hD' bp l2 h.Dp
    Dc := hD' bc l3 h.Dc
    Dw := by
      intro k hk
      have hs := HU.size
      rcases List.mem_append.1 hk with h1 | h1
      · have := hn k h1; omega
      · have := h.Dw k h1; omega
    small := ⟨hl, h.small.2⟩ }

set_option maxHeartbeats 400000 in
theorem slot_pre {w : World} {s bp bc cp cq f : Nat} {st : Sl} {D : List Nat} (h : SlotAt w s bp bc cp cq f st D) (v : Value) (rs : List Rq) (hb : Bat w v rs) (hn : rs.length ≤ 100000) :
    Calls Try.prog 20 #[.pointer (some ⟨s, 0, none⟩), v] w fun e w' => e = .returned (.bool (!st.has)) ∧ Upd [s] w w' ∧ ∃ D', (∀ k ∈ D', k ∈ D ∨ w.heap.size ≤ k) ∧
      SlotAt w' s bp bc cp cq f (if st.has then st else { st with has := true, batch := rs }) D' := by
  have H := Lib.hid h
  obtain ⟨ao, cap, l1, l2, l3, c0, c1, c2, c3, c4, fz, b1, b2, own⟩ := h.cells
  have B1 := Lib.hid b1
  have OWN := Lib.hid own
  have HB := Lib.hid hb
  have fz1 := fz 1
  have fz2 := fz 2
  clear b1 own hb fz
  cases hhas : st.has with
  | true =>
    rw [hhas] at c1
    clear hhas
    go_enter Try.func20, Try.ntmps20
    go_wp2_with fail
    go_ret
    exact ⟨rfl, Upd.refl _ _, D, fun k hk => .inl hk, by simpa using H.out⟩
  | false =>
    rw [hhas] at c1
    have HH := Lib.hid hhas
    clear hhas
    go_enter Try.func20, Try.ntmps20
    go_wp2_with fail
    refine (fresh_any v rs _ hn HB.out).mono ?_
    rintro e w1 ⟨v', rfl, hu, hbat, hnew⟩
    obtain ⟨ao', cap', rfl⟩ := bat_form hbat
    have HBAT := Lib.hid hbat
    clear hbat
    have k1 := (hu.cell (o := 1) l1 (by simp)).trans c1
    have k2 := (hu.cell (o := 2) l1 (by simp)).trans c2
    have g1 := (hu.frozen (o := 1) l1 (by simp)).trans fz1
    have g2 := (hu.frozen (o := 2) l1 (by simp)).trans fz2
    have OWN1 := Lib.hid ((hu.block s l1 (by simp)).trans OWN.out)
    have H1 := Lib.hid (H.out.upd hu (by simp) (by simp) (by simp) (by simp))
    have hsz := hu.size
    clear c0 c1 c2 c3 c4 fz1 fz2
    go_wp2_with fail
    go_ret
    have HU : Upd [s] w1 ((w1.setCell ⟨s, 1, none⟩ (.bool true)).setCell ⟨s, 2, none⟩ (.slice ao' rs.length cap')) := ((Upd.refl _ _).setCell (.inl (by simp)) _).setCell (.inl (by simp)) _
    have H2 := H1.out
    have hnD : ∀ k ∈ blkOf (.slice ao' rs.length cap'), w.heap.size ≤ k := fun k hk => (hnew k hk).1
    refine ⟨rfl, (hu.mono (by simp)).trans HU, blkOf (.slice ao' rs.length cap') ++ D, ?_, ?_⟩
    · intro k hk
      rcases List.mem_append.1 hk with hk | hk
      · exact .inr (hnD k hk)
      · exact .inl hk
    · exact slot_with H2 rfl OWN1.out HBAT.out hnew l1 l2 l3 hn

/-! ### votes, Vote, Voted -/

set_option maxHeartbeats 400000 in
theorem votes_any {w : World} {s bp bc cp cq f : Nat} {st : Sl} {D : List Nat} (h : SlotAt w s bp bc cp cq f st D) (kind : Int) :
    Calls Try.prog 57 #[.pointer (some ⟨s, 0, none⟩), .int .i64 kind] w fun e w' =>
      e = .returned (if kind = 4 then .slice (some ⟨bp, 0, none⟩) (3 * f + 1) cp else if kind = 5 then .slice (some ⟨bc, 0, none⟩) (3 * f + 1) cq else .slice none 0 0) ∧ w = w' := by
  obtain ⟨ao, cap, l1, l2, l3, c0, c1, c2, c3, c4, fz, b1, b2, own⟩ := h.cells
  clear b1 own fz b2
  by_cases h4 : kind = 4
  · subst h4
    go_enter Try.func57, Try.ntmps57
    go_wp2_with fail
    go_ret
    exact ⟨rfl, rfl⟩
  · by_cases h5 : kind = 5
    · subst h5
      go_enter Try.func57, Try.ntmps57
      go_wp2_with fail
      go_ret
      exact ⟨rfl, rfl⟩
    · have h4b : (kind == 4) = false := by simp [h4]
      have h5b : (kind == 5) = false := by simp [h5]
      have H4 := Lib.hid h4
      have H5 := Lib.hid h5
      clear h4 h5
      go_enter Try.func57, Try.ntmps57
      go_wp2_with fail
      go_ret
      exact ⟨rfl, rfl⟩

/-- Has the node voted, in this list? -/
def votedB (l : List Vt) (node : Int) : Bool := decide (0 ≤ node) && match l[node.toNat]? with | some t => t.has | none => false
def openB (l : List Vt) (node : Int) : Bool := decide (0 ≤ node) && match l[node.toNat]? with | some t => !t.has | none => false

def listOf (st : Sl) (kind : Int) : List Vt := if kind = 4 then st.ps else if kind = 5 then st.cs else []
def canVote (st : Sl) (kind node : Int) : Bool := openB (listOf st kind) node
def voteS (st : Sl) (kind node sl : Int) (rs : List Rq) : Sl :=
  if canVote st kind node then
    if kind = 4 then { st with ps := st.ps.set node.toNat ⟨true, sl, rs⟩ } else { st with cs := st.cs.set node.toNat ⟨true, sl, rs⟩ }
  else st

theorem votes_set {w w2 : World} {b : Nat} {vs : List Vt} {D : List Nat} {i : Nat} {sl : Int} {v' : Value} {rs : List Rq} (h : VotesAt w b vs D)
    (hw2 : w2 = ((w.setCell ⟨b, i * 3, none⟩ (.bool true)).setCell ⟨b, i * 3 + 1, none⟩ (.int .i64 sl)).setCell ⟨b, i * 3 + 2, none⟩ v') (hi : i < vs.length) (hb : Bat w v' rs) (hv : b ∉ blkOf v') (hD : b ∉ D) :
    VotesAt w2 b (vs.set i ⟨true, sl, rs⟩) (blkOf v' ++ D) := by
  have HU : Upd [b] w w2 := by rw [hw2]; exact (((Upd.refl _ _).setCell (.inl (by simp)) _).setCell (.inl (by simp)) _).setCell (.inl (by simp)) _
  obtain ⟨arr, a1, a2, a3⟩ := h
  refine ⟨((arr.setIfInBounds (i * 3) (.bool true)).setIfInBounds (i * 3 + 1) (.int .i64 sl)).setIfInBounds (i * 3 + 2) v', ?_, by simpa using a2, fun j t hj => ?_⟩
  · rw [hw2, hp_same rfl, hp_same rfl, hp_same rfl, a1]; rfl
  · have hjl : j < vs.length := by simpa using (List.getElem?_eq_some_iff.1 hj).1
    by_cases hji : j = i
    · subst hji
      rw [List.getElem?_set_self hjl] at hj
      cases hj
      refine ⟨v', ?_, ?_, ?_, hb.upd HU (by intro k hk e; simp at e; subst e; exact hv hk), fun k hk => List.mem_append_left _ hk⟩
      · rw [Array.getElem?_setIfInBounds_ne (by omega), Array.getElem?_setIfInBounds_ne (by omega), Array.getElem?_setIfInBounds_self, if_pos (by omega)]
      · rw [Array.getElem?_setIfInBounds_ne (by omega), Array.getElem?_setIfInBounds_self, if_pos (by simp; omega)]
      · rw [Array.getElem?_setIfInBounds_self, if_pos (by simp; omega)]
    · rw [List.getElem?_set_ne (Ne.symm hji)] at hj
      obtain ⟨v, c1, c2, c3, c4, c5⟩ := a3 j t hj
      refine ⟨v, ?_, ?_, ?_, c4.upd HU (by intro k hk e; simp at e; subst e; exact hD (c5 k hk)), fun k hk => List.mem_append_right _ (c5 k hk)⟩
      · rw [Array.getElem?_setIfInBounds_ne (by omega), Array.getElem?_setIfInBounds_ne (by omega), Array.getElem?_setIfInBounds_ne (by omega)]; exact c1
      · rw [Array.getElem?_setIfInBounds_ne (by omega), Array.getElem?_setIfInBounds_ne (by omega), Array.getElem?_setIfInBounds_ne (by omega)]; exact c2
      · rw [Array.getElem?_setIfInBounds_ne (by omega), Array.getElem?_setIfInBounds_ne (by omega), Array.getElem?_setIfInBounds_ne (by omega)]; exact c3

/-- What is written where a vote is counted. -/
def Stored (w w' : World) (b i : Nat) (sl : Int) (rs : List Rq) : Prop :=
  ∃ w1 ao cap, Upd [] w w1 ∧ Bat w1 (.slice ao rs.length cap) rs ∧ (∀ k ∈ blkOf (.slice ao rs.length cap), w.heap.size ≤ k ∧ k < w1.heap.size) ∧
    w' = ((w1.setCell ⟨b, i * 3, none⟩ (.bool true)).setCell ⟨b, i * 3 + 1, none⟩ (.int .i64 sl)).setCell ⟨b, i * 3 + 2, none⟩ (.slice ao rs.length cap)

set_option maxHeartbeats 400000 in
theorem vote_yes {w : World} {s bp bc cp cq f : Nat} {st : Sl} {D : List Nat} (h : SlotAt w s bp bc cp cq f st D) (kind : Int) (node : Nat) (sl : Int) (v : Value) (rs : List Rq) (b cb : Nat) (l : List Vt) (hl : l.length = 3 * f + 1)
    (hk : (if kind = 4 then .slice (some ⟨bp, 0, none⟩) (3 * f + 1) cp else if kind = 5 then .slice (some ⟨bc, 0, none⟩) (3 * f + 1) cq else .slice none 0 0 : Value) = .slice (some ⟨b, 0, none⟩) (3 * f + 1) cb)
    (hv : VotesAt w b l D) (t : Vt) (ht : l[node]? = some t) (hhas : t.has = false) (hb : Bat w v rs) (hn : rs.length ≤ 100000) :
    Calls Try.prog 22 #[.pointer (some ⟨s, 0, none⟩), .int .i64 kind, .int .i64 node, .int .i64 sl, v] w fun e w' => e = .returned (.bool true) ∧ Stored w w' b node sl rs := by
  have HB := Lib.hid hb
  obtain ⟨bv, c0, c1, c2, _, hbw, _, fz⟩ := hv.cells node t ht
  rw [hhas] at c0
  have H := Lib.hid h
  have hf2 := h.f2
  have hnl : node < 3 * f + 1 := by rw [← hl]; exact (List.getElem?_eq_some_iff.1 ht).1
  have q0 := fz (node * 3)
  have q1 := fz (node * 3 + 1)
  have q2 := fz (node * 3 + 2)
  have HK := Lib.hid hk
  clear hb hk ht hhas fz hl hv h
  have i1 : ¬ (node : Int) < 0 := by omega
  have i2 : (node : Int) < 3 * (f : Int) + 1 := by omega
  have i3 : ¬ ((3 * f + 1 : Nat) : Int) ≤ (node : Int) := by omega
  go_enter Try.func22, Try.ntmps22
  go_wp2_with fail
  refine (votes_any H.out kind).mono ?_
  rw [HK.out]
  rintro e w' ⟨rfl, rfl⟩
  go_wp2_with fail
  refine (fresh_any v rs _ hn HB.out).mono ?_
  rintro e w1 ⟨v', rfl, hu, hbat, hnew⟩
  obtain ⟨ao', cap', rfl⟩ := bat_form hbat
  have HBAT := Lib.hid hbat
  clear hbat
  have k0 := (hu.cell (o := node * 3) hbw (by simp)).trans c0
  have k1 := (hu.cell (o := node * 3 + 1) hbw (by simp)).trans c1
  have k2 := (hu.cell (o := node * 3 + 2) hbw (by simp)).trans c2
  have g0 := (hu.frozen (o := node * 3) hbw (by simp)).trans q0
  have g1 := (hu.frozen (o := node * 3 + 1) hbw (by simp)).trans q1
  have g2 := (hu.frozen (o := node * 3 + 2) hbw (by simp)).trans q2
  have HNEW := Lib.hid hnew
  clear c0 c1 c2 q0 q1 q2 hnew
  go_wp2_with fail
  go_ret
  exact ⟨rfl, w1, ao', cap', hu, HBAT.out, HNEW.out, rfl⟩

end Go.Proofs.Ytdeadekeffficaa

/- slot.Vote, slot.Voted. -/
namespace Go.Proofs.Ytdeadekeffficaa
open Go.RowKit Go.Heap

set_option maxHeartbeats 400000 in
theorem vote_out {w : World} {s bp bc cp cq f : Nat} {st : Sl} {D : List Nat} (h : SlotAt w s bp bc cp cq f st D) (kind node sl : Int) (v : Value) (ao : Option Addr) (n cb : Nat)
    (hk : (if kind = 4 then .slice (some ⟨bp, 0, none⟩) (3 * f + 1) cp else if kind = 5 then .slice (some ⟨bc, 0, none⟩) (3 * f + 1) cq else .slice none 0 0 : Value) = .slice ao n cb)
    (ho : node < 0 ∨ (n : Int) ≤ node) :
    Calls Try.prog 22 #[.pointer (some ⟨s, 0, none⟩), .int .i64 kind, .int .i64 node, .int .i64 sl, v] w fun e w' => e = .returned (.bool false) ∧ w = w' := by
  have H := Lib.hid h
  have HK := Lib.hid hk
  clear hk h
  rcases ho with ho | ho
  · go_enter Try.func22, Try.ntmps22
    go_wp2_with fail
    refine (votes_any H.out kind).mono ?_
    rw [HK.out]
    rintro e w' ⟨rfl, rfl⟩
    go_wp2_with fail
    go_ret
    exact ⟨rfl, rfl⟩
  · have h0 : ¬ node < 0 := by omega
    go_enter Try.func22, Try.ntmps22
    go_wp2_with fail
    refine (votes_any H.out kind).mono ?_
    rw [HK.out]
    rintro e w' ⟨rfl, rfl⟩
    go_wp2_with fail
    go_ret
    exact ⟨rfl, rfl⟩

set_option maxHeartbeats 400000 in
theorem vote_has {w : World} {s bp bc cp cq f : Nat} {st : Sl} {D : List Nat} (h : SlotAt w s bp bc cp cq f st D) (kind : Int) (node : Nat) (sl : Int) (v : Value) (b cb : Nat) (l : List Vt) (hl : l.length = 3 * f + 1)
    (hk : (if kind = 4 then .slice (some ⟨bp, 0, none⟩) (3 * f + 1) cp else if kind = 5 then .slice (some ⟨bc, 0, none⟩) (3 * f + 1) cq else .slice none 0 0 : Value) = .slice (some ⟨b, 0, none⟩) (3 * f + 1) cb)
    (hv : VotesAt w b l D) (t : Vt) (ht : l[node]? = some t) (hhas : t.has = true) :
    Calls Try.prog 22 #[.pointer (some ⟨s, 0, none⟩), .int .i64 kind, .int .i64 node, .int .i64 sl, v] w fun e w' => e = .returned (.bool false) ∧ w = w' := by
  obtain ⟨bv, c0, c1, c2, _, hbw, _, fz⟩ := hv.cells node t ht
  rw [hhas] at c0
  have H := Lib.hid h
  have hf2 := h.f2
  have hnl : node < 3 * f + 1 := by rw [← hl]; exact (List.getElem?_eq_some_iff.1 ht).1
  have HK := Lib.hid hk
  clear hk ht hhas fz hl hv h
  have i1 : ¬ (node : Int) < 0 := by omega
  have i2 : (node : Int) < 3 * (f : Int) + 1 := by omega
  have i3 : ¬ ((3 * f + 1 : Nat) : Int) ≤ (node : Int) := by omega
  go_enter Try.func22, Try.ntmps22
  go_wp2_with fail
  refine (votes_any H.out kind).mono ?_
  rw [HK.out]
  rintro e w' ⟨rfl, rfl⟩
  go_wp2_with fail
  go_ret
  exact ⟨rfl, rfl⟩

/-- What a call of Vote does to a slot. -/
def VotePost (w : World) (s bp bc cp cq f : Nat) (st : Sl) (D : List Nat) (kind node sl : Int) (rs : List Rq) (e : Ending) (w' : World) : Prop :=
  e = .returned (.bool (canVote st kind node)) ∧ Upd [bp, bc] w w' ∧ ∃ D', (∀ k ∈ D', k ∈ D ∨ w.heap.size ≤ k) ∧ SlotAt w' s bp bc cp cq f (voteS st kind node sl rs) D'

theorem votePost_no {w : World} {s bp bc cp cq f : Nat} {st : Sl} {D : List Nat} (h : SlotAt w s bp bc cp cq f st D) {kind node sl : Int} {rs : List Rq} (hc : canVote st kind node = false) : VotePost w s bp bc cp cq f st D kind node sl rs (.returned (.bool false)) w :=
  ⟨by rw [hc], Upd.refl _ _, D, fun k hk => .inl hk, by unfold voteS; rw [hc]; exact h⟩

theorem wide_votes {w : World} {b : Nat} {vs : List Vt} {D E : List Nat} (h : VotesAt w b vs D) : VotesAt w b vs (E ++ D) := by
  obtain ⟨arr, a1, a2, a3⟩ := h
  refine ⟨arr, a1, a2, fun i t hi => ?_⟩
  obtain ⟨v, c1, c2, c3, c4, c5⟩ := a3 i t hi
  exact ⟨v, c1, c2, c3, c4, fun k hk => List.mem_append_right _ (c5 k hk)⟩

theorem votePost_yes {w w' : World} {s bp bc cp cq f : Nat} {st : Sl} {D : List Nat} (h : SlotAt w s bp bc cp cq f st D) {kind sl : Int} {node : Nat} {rs : List Rq} {b : Nat} (hc : canVote st kind node = true) (hn : rs.length ≤ 100000)
    (hb : kind = 4 ∧ b = bp ∨ kind = 5 ∧ b = bc) (hnode : node < 3 * f + 1) (hs : Stored w w' b node sl rs) : VotePost w s bp bc cp cq f st D kind node sl rs (.returned (.bool true)) w' := by
  obtain ⟨w1, ao, cap, hu, hbat, hnew, hw'⟩ := hs
  obtain ⟨_, _, l1, l2, l3, _⟩ := h.cells
  have h1 := h.upd hu (by simp) (by simp) (by simp) (by simp)
  have HU : Upd [b] w1 w' := by rw [hw']; exact (((Upd.refl _ _).setCell (.inl (by simp)) _).setCell (.inl (by simp)) _).setCell (.inl (by simp)) _
  have hsz := HU.size
  have hbl : ∀ x, x < w.heap.size → x ∉ blkOf (.slice ao rs.length cap) := fun x hx hin => by have := hnew x hin; omega
  have hbD : b ∉ D := by
    rcases hb with ⟨_, e⟩ | ⟨_, e⟩
    · rw [e]; exact h.Dp
    · rw [e]; exact h.Dc
  have hbw : b < w.heap.size := by
    rcases hb with ⟨_, e⟩ | ⟨_, e⟩
    · rw [e]; exact l2
    · rw [e]; exact l3
  have hDb : ∀ k ∈ D, k ∉ [b] := fun k hk e => by simp at e; subst e; exact hbD hk
  have hbb : ∀ k ∈ blkOf (.slice ao rs.length cap), k ∉ [b] := fun k hk e => by simp at e; subst e; exact hbl _ hbw hk
  obtain ⟨v0, o1, o2, o3⟩ := h1.own
  have hsb : s ≠ b := by
    rcases hb with ⟨_, e⟩ | ⟨_, e⟩
    · rw [e]; exact h.sp
    · rw [e]; exact h.sc
  have own' : ∃ v, w'.heap[s]? = some (.cells #[.int .i64 f, .bool st.has, v, .slice (some ⟨bp, 0, none⟩) (3 * f + 1) cp, .slice (some ⟨bc, 0, none⟩) (3 * f + 1) cq] 105 (0, 0)) ∧ Bat w' v st.batch ∧ ∀ k ∈ blkOf v, k ∈ blkOf (.slice ao rs.length cap) ++ D :=
    ⟨v0, by rw [HU.block s (block_lt o1) (by simpa using hsb)]; exact o1, o2.upd HU (fun k hk => hDb k (o3 k hk)), fun k hk => List.mem_append_right _ (o3 k hk)⟩
  have hD' : ∀ x, x < w.heap.size → x ∉ D → x ∉ blkOf (.slice ao rs.length cap) ++ D := by
    intro x hx hxD hin
    rcases List.mem_append.1 hin with h1 | h1
    · exact hbl x hx h1
    · exact hxD h1
  have hDw : ∀ k ∈ blkOf (.slice ao rs.length cap) ++ D, k < w'.heap.size := by
    intro k hk
    rcases List.mem_append.1 hk with h2 | h2
    · have := hnew k h2; omega
    · have := h1.Dw k h2; omega
  refine ⟨by rw [hc], (hu.mono (by simp)).trans (HU.mono (by intro k _ hk; simp at hk; subst hk; rcases hb with ⟨_, e⟩ | ⟨_, e⟩ <;> simp [e])), blkOf (.slice ao rs.length cap) ++ D, ?_, ?_⟩
  · intro k hk
    rcases List.mem_append.1 hk with hk | hk
    · exact .inr (hnew k hk).1
    · exact .inl hk
  · unfold voteS
    rw [hc, if_pos rfl, Int.toNat_natCast]
    rcases hb with ⟨rfl, rfl⟩ | ⟨rfl, rfl⟩
    · rw [if_pos rfl]
      exact {
        f1 := h.f1, f2 := h.f2, own := own', sp := h.sp, sc := h.sc, pc := h.pc
        ps := votes_set h1.ps hw' (by rw [h.pl]; exact hnode) hbat (hbl _ l2) h.Dp
        cs := wide_votes (h1.cs.upd HU (by simpa using Ne.symm h.pc) hDb)
        pl := by simpa using h.pl
        cl := h.cl
        Ds := hD' s l1 h.Ds, Dp := hD' _ l2 h.Dp, Dc := hD' _ l3 h.Dc, Dw := hDw
        small := ⟨h.small.1, fun t ht => by
          rcases List.mem_or_eq_of_mem_set ht with h2 | h2
          · exact h.small.2.1 t h2
          · rw [h2]; exact hn, h.small.2.2⟩ }
    · rw [if_neg (by omega)]
      exact {
        f1 := h.f1, f2 := h.f2, own := own', sp := h.sp, sc := h.sc, pc := h.pc
        ps := wide_votes (h1.ps.upd HU (by simpa using h.pc) hDb)
        cs := votes_set h1.cs hw' (by rw [h.cl]; exact hnode) hbat (hbl _ l3) h.Dc
        pl := h.pl
        cl := by simpa using h.cl
        Ds := hD' s l1 h.Ds, Dp := hD' _ l2 h.Dp, Dc := hD' _ l3 h.Dc, Dw := hDw
        small := ⟨h.small.1, h.small.2.1, fun t ht => by
          rcases List.mem_or_eq_of_mem_set ht with h2 | h2
          · exact h.small.2.2 t h2
          · rw [h2]; exact hn⟩ }

theorem slot_vote {w : World} {s bp bc cp cq f : Nat} {st : Sl} {D : List Nat} (h : SlotAt w s bp bc cp cq f st D) (kind node sl : Int) (v : Value) (rs : List Rq) (hb : Bat w v rs) (hn : rs.length ≤ 100000) :
    Calls Try.prog 22 #[.pointer (some ⟨s, 0, none⟩), .int .i64 kind, .int .i64 node, .int .i64 sl, v] w (VotePost w s bp bc cp cq f st D kind node sl rs) := by
  have nope : ∀ {e : Ending} {w' : World}, canVote st kind node = false → e = .returned (.bool false) ∧ w = w' → VotePost w s bp bc cp cq f st D kind node sl rs e w' := by
    rintro e w' hc ⟨rfl, rfl⟩
    exact votePost_no h hc
  by_cases hk : kind = 4 ∨ kind = 5
  · obtain ⟨b, cb, l, hl, hkv, hvv, hlist, hbb⟩ : ∃ (b cb : Nat) (l : List Vt), l.length = 3 * f + 1 ∧ (if kind = 4 then .slice (some ⟨bp, 0, none⟩) (3 * f + 1) cp else if kind = 5 then .slice (some ⟨bc, 0, none⟩) (3 * f + 1) cq else .slice none 0 0 : Value) = .slice (some ⟨b, 0, none⟩) (3 * f + 1) cb ∧
        VotesAt w b l D ∧ listOf st kind = l ∧ (kind = 4 ∧ b = bp ∨ kind = 5 ∧ b = bc) := by
      rcases hk with rfl | rfl
      · exact ⟨bp, cp, st.ps, h.pl, by rw [if_pos rfl], h.ps, by simp [listOf], .inl ⟨rfl, rfl⟩⟩
      · exact ⟨bc, cq, st.cs, h.cl, by rw [if_neg (by omega), if_pos rfl], h.cs, by simp [listOf], .inr ⟨rfl, rfl⟩⟩
    by_cases hin : 0 ≤ node ∧ node < 3 * (f : Int) + 1
    · obtain ⟨i, rfl⟩ := Int.eq_ofNat_of_zero_le hin.1
      have hil : i < l.length := by omega
      have hget : l[i]? = some l[i] := List.getElem?_eq_getElem hil
      by_cases hhas : l[i].has = true
      · refine (vote_has h kind i sl v b cb l hl hkv hvv _ hget hhas).mono fun e w' => nope ?_
        simp [canVote, openB, hlist, hget, hhas]
      · have hhas' : l[i].has = false := by simpa using hhas
        refine (vote_yes h kind i sl v rs b cb l hl hkv hvv _ hget hhas' hb hn).mono fun e w' ⟨he, hst⟩ => ?_
        subst he
        exact votePost_yes h (by simp [canVote, openB, hlist, hget, hhas']) hn hbb (by omega) hst
    · refine (vote_out h kind node sl v _ _ _ hkv (by omega)).mono fun e w' => nope ?_
      unfold canVote openB
      rw [hlist]
      by_cases h0 : 0 ≤ node
      · rw [List.getElem?_eq_none (by omega)]; simp
      · simp [h0]
  · have h4 : ¬ kind = 4 := fun e => hk (.inl e)
    have h5 : ¬ kind = 5 := fun e => hk (.inr e)
    refine (vote_out h kind node sl v none 0 0 (by rw [if_neg h4, if_neg h5]) (by omega)).mono fun e w' => nope ?_
    simp [canVote, openB, listOf, h4, h5]

end Go.Proofs.Ytdeadekeffficaa

/- slot.Voted, Chosen, Prepared, Committed. -/
namespace Go.Proofs.Ytdeadekeffficaa
open Go.RowKit Go.Heap

set_option maxHeartbeats 400000 in
theorem voted_out {w : World} {s bp bc cp cq f : Nat} {st : Sl} {D : List Nat} (h : SlotAt w s bp bc cp cq f st D) (kind node : Int) (ao : Option Addr) (n cb : Nat)
    (hk : (if kind = 4 then .slice (some ⟨bp, 0, none⟩) (3 * f + 1) cp else if kind = 5 then .slice (some ⟨bc, 0, none⟩) (3 * f + 1) cq else .slice none 0 0 : Value) = .slice ao n cb)
    (ho : node < 0 ∨ (n : Int) ≤ node) :
    Calls Try.prog 28 #[.pointer (some ⟨s, 0, none⟩), .int .i64 kind, .int .i64 node] w fun e w' => e = .returned (.bool false) ∧ w = w' := by
  have H := Lib.hid h
  have HK := Lib.hid hk
  clear hk h
  rcases ho with ho | ho
  · go_enter Try.func28, Try.ntmps28
    go_wp2_with fail
    refine (votes_any H.out kind).mono ?_
    rw [HK.out]
    rintro e w' ⟨rfl, rfl⟩
    go_wp2_with fail
    go_ret
    exact ⟨rfl, rfl⟩
  · have h0 : 0 ≤ node := by omega
    have h1 : ¬ node < (n : Int) := by omega
    go_enter Try.func28, Try.ntmps28
    go_wp2_with fail
    refine (votes_any H.out kind).mono ?_
    rw [HK.out]
    rintro e w' ⟨rfl, rfl⟩
    go_wp2_with fail
    go_ret
    exact ⟨rfl, rfl⟩

set_option maxHeartbeats 400000 in
theorem voted_in {w : World} {s bp bc cp cq f : Nat} {st : Sl} {D : List Nat} (h : SlotAt w s bp bc cp cq f st D) (kind : Int) (node : Nat) (b cb : Nat) (l : List Vt) (hl : l.length = 3 * f + 1)
    (hk : (if kind = 4 then .slice (some ⟨bp, 0, none⟩) (3 * f + 1) cp else if kind = 5 then .slice (some ⟨bc, 0, none⟩) (3 * f + 1) cq else .slice none 0 0 : Value) = .slice (some ⟨b, 0, none⟩) (3 * f + 1) cb)
    (hv : VotesAt w b l D) (t : Vt) (ht : l[node]? = some t) :
    Calls Try.prog 28 #[.pointer (some ⟨s, 0, none⟩), .int .i64 kind, .int .i64 node] w fun e w' => e = .returned (.bool t.has) ∧ w = w' := by
  obtain ⟨bv, c0, c1, c2, _, hbw, _, fz⟩ := hv.cells node t ht
  have H := Lib.hid h
  have hf2 := h.f2
  have hnl : node < 3 * f + 1 := by rw [← hl]; exact (List.getElem?_eq_some_iff.1 ht).1
  have HK := Lib.hid hk
  clear hk ht fz hl hv h
  have i1 : (0 : Int) ≤ (node : Int) := by omega
  have i2 : (node : Int) < 3 * (f : Int) + 1 := by omega
  have i3 : (node : Int) < ((3 * f + 1 : Nat) : Int) := by omega
  go_enter Try.func28, Try.ntmps28
  go_wp2_with fail
  refine (votes_any H.out kind).mono ?_
  rw [HK.out]
  rintro e w' ⟨rfl, rfl⟩
  go_wp2_with fail
  go_ret
  exact ⟨rfl, rfl⟩

theorem slot_voted {w : World} {s bp bc cp cq f : Nat} {st : Sl} {D : List Nat} (h : SlotAt w s bp bc cp cq f st D) (kind node : Int) :
    Calls Try.prog 28 #[.pointer (some ⟨s, 0, none⟩), .int .i64 kind, .int .i64 node] w fun e w' => e = .returned (.bool (votedB (listOf st kind) node)) ∧ w = w' := by
  by_cases hk : kind = 4 ∨ kind = 5
  · obtain ⟨b, cb, l, hl, hkv, hvv, hlist⟩ : ∃ (b cb : Nat) (l : List Vt), l.length = 3 * f + 1 ∧ (if kind = 4 then .slice (some ⟨bp, 0, none⟩) (3 * f + 1) cp else if kind = 5 then .slice (some ⟨bc, 0, none⟩) (3 * f + 1) cq else .slice none 0 0 : Value) = .slice (some ⟨b, 0, none⟩) (3 * f + 1) cb ∧
        VotesAt w b l D ∧ listOf st kind = l := by
      rcases hk with rfl | rfl
      · exact ⟨bp, cp, st.ps, h.pl, by rw [if_pos rfl], h.ps, by simp [listOf]⟩
      · exact ⟨bc, cq, st.cs, h.cl, by rw [if_neg (by omega), if_pos rfl], h.cs, by simp [listOf]⟩
    rw [hlist]
    by_cases hin : 0 ≤ node ∧ node < 3 * (f : Int) + 1
    · obtain ⟨i, rfl⟩ := Int.eq_ofNat_of_zero_le hin.1
      have hil : i < l.length := by omega
      have hget : l[i]? = some l[i] := List.getElem?_eq_getElem hil
      refine (voted_in h kind i b cb l hl hkv hvv _ hget).mono fun e w' ⟨he, hw⟩ => ⟨?_, hw⟩
      rw [he]
      simp [votedB, hget]
    · refine (voted_out h kind node _ _ _ hkv (by omega)).mono fun e w' ⟨he, hw⟩ => ⟨?_, hw⟩
      rw [he]
      unfold votedB
      by_cases h0 : 0 ≤ node
      · rw [List.getElem?_eq_none (by omega)]; simp
      · simp [h0]
  · have h4 : ¬ kind = 4 := fun e => hk (.inl e)
    have h5 : ¬ kind = 5 := fun e => hk (.inr e)
    refine (voted_out h kind node none 0 0 (by rw [if_neg h4, if_neg h5]) (by omega)).mono fun e w' ⟨he, hw⟩ => ⟨?_, hw⟩
    rw [he]
    simp [votedB, listOf, h4, h5]

/-! ### Chosen -/

def chosenS (st : Sl) : List Rq := if st.has then st.batch else []

set_option maxHeartbeats 400000 in
theorem slot_chosen {w : World} {s bp bc cp cq f : Nat} {st : Sl} {D : List Nat} (h : SlotAt w s bp bc cp cq f st D) :
    Calls Try.prog 29 #[.pointer (some ⟨s, 0, none⟩)] w fun e w' => ∃ u, e = .returned (.tuple #[u, .bool st.has]) ∧ Upd [] w w' ∧ Bat w' u (chosenS st) ∧ ∀ k ∈ blkOf u, w.heap.size ≤ k ∧ k < w'.heap.size := by
  have H := Lib.hid h
  obtain ⟨ao, cap, l1, l2, l3, c0, c1, c2, c3, c4, fz, b1, b2, own⟩ := h.cells
  have B1 := Lib.hid b1
  clear b1 own fz b2 h
  unfold chosenS
  cases hhas : st.has with
  | false =>
    rw [hhas] at c1
    clear hhas
    go_enter Try.func29, Try.ntmps29
    go_wp2_with fail
    go_ret2
    exact ⟨_, rfl, Upd.refl _ _, Reads.nil _ _, by simp [blkOf]⟩
  | true =>
    rw [hhas] at c1
    clear hhas
    go_enter Try.func29, Try.ntmps29
    go_wp2_with fail
    refine (fresh_any _ st.batch _ H.out.small.1 B1.out).mono ?_
    rintro e w1 ⟨v', rfl, hu, hbat, hnew⟩
    have HBAT := Lib.hid hbat
    have HNEW := Lib.hid hnew
    clear hbat hnew
    go_wp2_with fail
    go_ret2
    exact ⟨_, rfl, hu, HBAT.out, HNEW.out⟩

/-! ### Prepared -/

def preparedS (f : Nat) (st : Sl) : Option Vs := if st.has then enoughS st.ps st.batch (2 * f + 1) else none

set_option maxHeartbeats 400000 in
set_option maxRecDepth 100000 in
theorem slot_prepared {w : World} {s bp bc cp cq f : Nat} {st : Sl} {D : List Nat} (h : SlotAt w s bp bc cp cq f st D) :
    Calls Try.prog 23 #[.pointer (some ⟨s, 0, none⟩)] w fun e w' => ∃ u, e = .returned (.tuple #[u, .bool (preparedS f st).isSome]) ∧ Below w.heap.size w w' ∧ Vts w' u ((preparedS f st).getD []) ∧ ∀ k ∈ blkOf u, w.heap.size ≤ k := by
  have H := Lib.hid h
  obtain ⟨ao, cap, l1, l2, l3, c0, c1, c2, c3, c4, fz, b1, b2, own⟩ := h.cells
  have B1 := Lib.hid b1
  have hpl := h.pl
  have HPL := Lib.hid hpl
  clear b1 own fz b2 h hpl
  unfold preparedS
  cases hhas : st.has with
  | false =>
    rw [hhas] at c1
    clear hhas
    go_enter Try.func23, Try.ntmps23
    go_wp2_with fail
    go_ret2
    exact ⟨_, rfl, Below.refl _ _, Reads.nil _ _, by simp [blkOf]⟩
  | true =>
    rw [hhas] at c1
    clear hhas
    go_enter Try.func23, Try.ntmps23
    go_wp2_with fail
    refine Mix.wp_text (by kernel_rfl) (by kernel_rfl) ?_
    go_wp2_with fail
    have hen := enough_any s bp cp (.slice ao st.batch.length cap) f st.ps D st.batch w.drew H.out.f1 H.out.f2 (by rw [HPL.out]; have := H.out.f2; omega) l1 (by rw [HPL.out]; omega) c0 H.out.ps B1.out H.out.small.1 H.out.small.2.1
    rw [HPL.out] at hen
    refine hen.mono ?_
    clear hen
    rintro e w1 ⟨u, rfl, hb1, hv, hn⟩
    have HV := Lib.hid hv
    have HN := Lib.hid hn
    clear hv hn
    go_wp2_with fail
    refine ⟨by rfl, ?_⟩
    go_wp2_with fail
    go_ret2
    exact ⟨_, rfl, (Below.refl _ _).drew.trans hb1, HV.out, HN.out⟩

end Go.Proofs.Ytdeadekeffficaa

/- slot.Committed. -/
namespace Go.Proofs.Ytdeadekeffficaa
open Go.RowKit Go.Heap

/-- The first batch for which there are q votes, and these. -/
def committedL (all : List Vt) (q : Nat) : List Vt → Option (List Rq × Vs)
  | [] => none
  | t :: r => if t.has then (match enoughS all t.batch q with | some vs => some (t.batch, vs) | none => committedL all q r) else committedL all q r

def committedS (f : Nat) (st : Sl) : Option (List Rq × Vs) := committedL st.cs (2 * f + 1) st.cs

def batchOf (r : Option (List Rq × Vs)) : List Rq := match r with | some p => p.1 | none => []
def votesOf (r : Option (List Rq × Vs)) : Vs := match r with | some p => p.2 | none => []

def CommittedPost (w : World) (r : Option (List Rq × Vs)) (e : Ending) (w' : World) : Prop :=
  ∃ v u, e = .returned (.tuple #[v, u, .bool r.isSome]) ∧ Below w.heap.size w w' ∧ Bat w' v (batchOf r) ∧ Vts w' u (votesOf r) ∧ (∀ k ∈ blkOf v, w.heap.size ≤ k) ∧ ∀ k ∈ blkOf u, w.heap.size ≤ k

set_option maxHeartbeats 1000000 in
set_option maxRecDepth 100000 in
theorem slot_committed {w : World} {s bp bc cp cq f : Nat} {st : Sl} {D : List Nat} (h : SlotAt w s bp bc cp cq f st D) :
    Calls Try.prog 24 #[.pointer (some ⟨s, 0, none⟩)] w (CommittedPost w (committedS f st)) := by
  have H := Lib.hid h
  obtain ⟨ao, cap, l1, l2, l3, c0, c1, c2, c3, c4, fz, b1, b2, own⟩ := h.cells
  have hcl := h.cl
  have hf1 := h.f1
  have hf2 := h.f2
  have hlen : st.cs.length ≤ 13 := by omega
  have HCL := Lib.hid hcl
  clear b1 own fz b2 h hcl c1 c2 c3
  go_enter Try.func24, Try.ntmps24
  go_wp2_with fail
  go_loopw [14] (fun i wr => ∃ k : Nat, k ≤ 3 * f + 1 ∧ i = .int .i64 k ∧ Below w.heap.size w wr ∧ Hid (committedS f st = committedL st.cs (2 * f + 1) (st.cs.drop k))) (fun i _ => 3 * f + 1 - (intOf i).toNat)
  case atStart => exact ⟨0, by omega, rfl, Below.refl _ _, by rfl⟩
  case round =>
    obtain ⟨k, hk, rfl, hbel, hcom⟩ := hrel
    have hz := hbel.size
    have k0 := (hbel.cell (p := ⟨s, 0, none⟩) l1).trans c0
    have k4 := (hbel.cell (p := ⟨s, 4, none⟩) l1).trans c4
    by_cases hlt : k < 3 * f + 1
    · have hkl : k < st.cs.length := by rw [HCL.out]; exact hlt
      have hvr := H.out.cs.upd (M := []) (Upd.of_below hbel) (by simp) (by simp)
      obtain ⟨bv, d0, d1, d2, hbat, hbw, _, _⟩ := hvr.cells k st.cs[k] (by simp)
      obtain ⟨bo, bcap, rfl⟩ := bat_form hbat
      have HBAT := Lib.hid hbat
      have HVR := Lib.hid hvr
      have hlk := H.out.small.2.2 st.cs[k] (by simp)
      have hkI : (k : Int) < 3 * (f : Int) + 1 := by omega
      have hkN : (k : Int) < ((3 * f + 1 : Nat) : Int) := by omega
      clear hvr hbat
      have hdrop := Lib.hid (List.drop_eq_getElem_cons hkl)
      by_cases hhas : st.cs[k].has = true
      · rw [hhas] at d0
        have HHAS := Lib.hid hhas
        clear hhas
        have hsr : s < wr.heap.size := Nat.lt_of_lt_of_le l1 hz
        have hsn : s ≠ wr.heap.size := by omega
        go_wp2_with fail
        refine Mix.wp_text (by kernel_rfl) (by kernel_rfl) ?_
        go_wp2_with fail
        have HU0 : Upd [] wr (wr.alloc (.cells #[.bool true, .int .i64 st.cs[k].sl, .slice bo st.cs[k].batch.length bcap] 109)).drew := ((Upd.refl _ _).alloc _).drew
        have hen := enough_any s bc cq (.slice bo st.cs[k].batch.length bcap) f st.cs D st.cs[k].batch (wr.alloc (.cells #[.bool true, .int .i64 st.cs[k].sl, .slice bo st.cs[k].batch.length bcap] 109)).drew hf1 hf2 hlen (by simp; omega) (by omega)
          ((HU0.cell hsr (by simp)).trans k0) (HVR.out.upd HU0 (by simp) (by simp)) (HBAT.out.upd HU0 (by simp)) hlk H.out.small.2.2
        rw [HCL.out] at hen
        simp only [hs_drew, hs_alloc] at hen
        have hx2 : (wr.alloc (.cells #[.bool true, .int .i64 st.cs[k].sl, .slice bo st.cs[k].batch.length bcap] 109)).cell? ⟨wr.heap.size, 2, none⟩ = some (.slice bo st.cs[k].batch.length bcap) := by
          rw [block_cell (heap_alloc_new wr _)]; rfl
        have HX2 := Lib.hid hx2
        clear hx2
        have hbelq : Below w.heap.size w (wr.alloc (.cells #[.bool true, .int .i64 st.cs[k].sl, .slice bo st.cs[k].batch.length bcap] 109)).drew := (hbel.alloc hz _).drew
        cases hr : enoughS st.cs st.cs[k].batch (2 * f + 1) with
        | none =>
          rw [hr] at hen
          have HR := Lib.hid hr
          clear hr
          refine hen.mono ?_
          clear hen
          rintro e w2 ⟨u, rfl, hb1, -, -⟩
          go_wp2_with fail
          refine ⟨by rfl, ?_⟩
          go_wp2_with fail
          go_roundw
          case rel =>
            refine ⟨k + 1, by omega, by go_num, hbelq.trans (hb1.mono (by omega)), ?_⟩
            have h1 := hcom.out
            rw [hdrop.out] at h1
            show committedS f st = _
            rw [h1, committedL, if_pos HHAS.out, HR.out]
          case measure => simp [intOf]; omega
        | some vs =>
          rw [hr] at hen
          have HR := Lib.hid hr
          clear hr
          refine hen.mono ?_
          clear hen
          rintro e w2 ⟨u, rfl, hb1, hv, hn⟩
          have HV := Lib.hid hv
          have HN := Lib.hid hn
          clear hv hn
          have x2 : w2.cell? ⟨wr.heap.size, 2, none⟩ = some (.slice bo st.cs[k].batch.length bcap) := (hb1.cell (p := ⟨wr.heap.size, 2, none⟩) (Nat.lt_succ_self _)).trans HX2.out
          go_wp2_with fail
          refine ⟨by rfl, ?_⟩
          go_wp2_with fail
          refine (fresh_any _ st.cs[k].batch _ hlk ((HBAT.out.upd HU0 (by simp)).upd (M := []) (Upd.of_below (by simpa using hb1)) (by simp))).mono ?_
          rintro e w3 ⟨v', rfl, hu3, hbat3, hnew3⟩
          have HB3 := Lib.hid hbat3
          have HN3 := Lib.hid hnew3
          clear hbat3 hnew3
          have hz2 := hb1.size
          simp only [hs_drew, hs_alloc] at hz2
          go_wp2_with fail
          go_ret3
          have hcs : committedS f st = some (st.cs[k].batch, vs) := by rw [hcom.out, hdrop.out, committedL, if_pos HHAS.out, HR.out]
          refine ⟨v', u, by rw [hcs]; rfl, (hbelq.trans (hb1.mono (by omega))).trans (hu3.below.mono (by omega)), by rw [hcs]; exact HB3.out, ?_, ?_, ?_⟩
          · rw [hcs]; exact HV.out.upd hu3 (by simp)
          · intro j hj; have := (HN3.out j hj).1; omega
          · intro j hj; have := HN.out j hj; omega
      · have hhas' : st.cs[k].has = false := by simpa using hhas
        rw [hhas'] at d0
        have HHAS := Lib.hid hhas'
        clear hhas hhas'
        go_wp2_with fail
        go_roundw
        case rel =>
          refine ⟨k + 1, by omega, by go_num, hbel.alloc hz _, ?_⟩
          have h1 := hcom.out
          rw [hdrop.out] at h1
          show committedS f st = _
          rw [h1, committedL, if_neg (by rw [HHAS.out]; simp)]
        case measure => simp [intOf]; omega
    · have hkn : ¬ (k : Int) < ((3 * f + 1 : Nat) : Int) := by omega
      go_wp2_with fail
      go_ret3
      have hcs : committedS f st = none := by rw [hcom.out, List.drop_of_length_le (by rw [HCL.out]; omega)]; rfl
      exact ⟨.slice none 0 0, .slice none 0 0, by rw [hcs]; rfl, hbel, by rw [hcs]; exact Reads.nil _ _, by rw [hcs]; exact Reads.nil _ _, by simp [blkOf], by simp [blkOf]⟩

end Go.Proofs.Ytdeadekeffficaa

/- slot.Clone. -/
namespace Go.Proofs.Ytdeadekeffficaa
open Go.RowKit Go.Heap

/-- What Clone leaves: a new block t, and the two lists of votes in new blocks. -/
def ClonePost (w : World) (ap ac : List Value) (f : Nat) (hh : Bool) (v : Value) (e : Ending) (w' : World) : Prop :=
  ∃ t gp gc cp cq, e = .returned (.pointer (some ⟨t, 0, none⟩)) ∧ Below w.heap.size w w' ∧ w.heap.size ≤ gp ∧ gp < gc ∧ gc < t ∧
    w'.heap[t]? = some (.cells #[.int .i64 f, .bool hh, v, .slice (some ⟨gp, 0, none⟩) (3 * f + 1) cp, .slice (some ⟨gc, 0, none⟩) (3 * f + 1) cq] 105 (0, 0)) ∧
    w'.ownsRow w.heap.size 109 3 (.slice (some ⟨gp, 0, none⟩) (3 * f + 1) cp) (3 * f + 1) ap ∧ w'.ownsRow w.heap.size 109 3 (.slice (some ⟨gc, 0, none⟩) (3 * f + 1) cq) (3 * f + 1) ac

set_option maxHeartbeats 3200000 in
set_option maxRecDepth 100000 in
theorem clone_walk {w : World} {s bp bc f : Nat} (hf : f ≤ 4) (hh : Bool) (v : Value) (ao : Option Addr) (n cap : Nat) (hv : v = .slice ao n cap) (ap ac : List Value) (cp cq : Nat) (h1 : ap.length = (3 * f + 1) * 3) (h2 : ac.length = (3 * f + 1) * 3)
    (hs : w.heap[s]? = some (.cells #[.int .i64 f, .bool hh, v, .slice (some ⟨bp, 0, none⟩) (3 * f + 1) cp, .slice (some ⟨bc, 0, none⟩) (3 * f + 1) cq] 105 (0, 0)))
    (_lp : bp < w.heap.size) (lc : bc < w.heap.size) (hp : ∀ W : World, W.heap[bp]? = w.heap[bp]? → ∀ j u, ap[j]? = some u → W.cell? ((⟨bp, 0, none⟩ : Addr).add j) = some u) (hc : ∀ W : World, W.heap[bc]? = w.heap[bc]? → ∀ j u, ac[j]? = some u → W.cell? ((⟨bc, 0, none⟩ : Addr).add j) = some u) (o1 : ∀ u ∈ ap, u.oneCell' = true) (o2 : ∀ u ∈ ac, u.oneCell' = true) :
    Calls Try.prog 31 #[.pointer (some ⟨s, 0, none⟩)] w (ClonePost w ap ac f hh v) := by
  obtain ⟨i0, hi, hz0, hz1, hz2⟩ := info_parts Try.infoSv
  subst hv
  have c0 : w.cell? ⟨s, 0, none⟩ = some (.int .i64 f) := by rw [block_cell hs]; rfl
  have c1 : w.cell? ⟨s, 1, none⟩ = some (.bool hh) := by rw [block_cell hs]; rfl
  have c2 : w.cell? ⟨s, 2, none⟩ = some (.slice ao n cap) := by rw [block_cell hs]; rfl
  have c3 : w.cell? ⟨s, 3, none⟩ = some (.slice (some ⟨bp, 0, none⟩) (3 * f + 1) cp) := by rw [block_cell hs]; rfl
  have c4 : w.cell? ⟨s, 4, none⟩ = some (.slice (some ⟨bc, 0, none⟩) (3 * f + 1) cq) := by rw [block_cell hs]; rfl
  have ls := block_lt hs
  have HP := Lib.hid hp
  have HC := Lib.hid hc
  clear hp hc
  have O1 := Lib.hid o1
  have O2 := Lib.hid o2
  have HS := Lib.hid hs
  clear hs o1 o2
  have L1 := Lib.hid h1
  have L2 := Lib.hid h2
  clear h1 h2
  go_enter Try.func31, Try.ntmps31
  go_wp2_with fail
  go_region_held3? (fun w' => w'.cell? ⟨s, 0, none⟩ = some (.int .i64 f) ∧ w'.cell? ⟨s, 1, none⟩ = some (.bool hh) ∧ w'.cell? ⟨s, 2, none⟩ = some (.slice ao n cap) ∧
      w'.cell? ⟨s, 3, none⟩ = some (.slice (some ⟨bp, 0, none⟩) (3 * f + 1) cp) ∧ w'.cell? ⟨s, 4, none⟩ = some (.slice (some ⟨bc, 0, none⟩) (3 * f + 1) cq))
    (first
      | go_keep
      | (go_split_ands
         have hz1 := hgrow.size
         simp only [hs_drew] at hz1
         refine ⟨?_, ?_, ?_, ?_, ?_⟩ <;> (rw [hgrow2.cell_far _ (by show s < w1.heap.size; omega) (by simp [Value.ownBlock])]; assumption))
      | (go_split_ands
         refine ⟨?_, ?_, ?_, ?_, ?_⟩ <;> (rw [hgrow.cell_far _ (by simp; omega) (by simp [Value.ownBlock])]; assumption)))
    (first
      | (refine step_append_lies _ (by rfl) (.const (.slice none 0 0)) (.tmp 18) _ (by rfl) w.heap.size 109 i0 (.agg #[.bool false, .int .i64 0, .slice none 0 0]) 3 40 Try.underlying103 hi hz0 hz1 hz2 rfl (by omega) _ 0 [] (by rfl) (World.ownsRow_nil _ _ _ _) ⟨bp, 0, none⟩ (3 * f + 1) cp ap (by rfl) L1.out (HP.out _ rfl) O1.out (by omega) (by unfold maxLen; omega) (by omega) (by simp) w.heap.size (by simp) ?_; intro g1 cap1 w1 hown1 hgrow hat hlt)
      | (refine step_append_lies _ (by rfl) (.const (.slice none 0 0)) (.tmp 23) _ (by rfl) w.heap.size 109 i0 (.agg #[.bool false, .int .i64 0, .slice none 0 0]) 3 40 Try.underlying103 hi hz0 hz1 hz2 rfl (by omega) _ 0 [] (by rfl) (World.ownsRow_nil _ _ _ _) ⟨bc, 0, none⟩ (3 * f + 1) cq ac (by rfl) L2.out (HC.out _ (hgrow.block bc (by simp; omega) (by simp [Value.ownBlock]))) O2.out (by omega) (by unfold maxLen; omega) (by omega) (by have := hgrow.size; simp at this; omega) w1.heap.size rfl ?_; intro g2 cap2 w2 hown2 hgrow2 hat2 hlt2))
  have E1 := Lib.hid hown1
  have E2 := Lib.hid hown2
  clear hown1 hown2
  go_wp2
  go_ret
  have hg1 : g1 = w.heap.size := by
    rcases hat with h | h
    · cases h
    · exact h
  have hg2 : g2 = w1.heap.size := by
    rcases hat2 with h | h
    · cases h
    · exact h
  refine ⟨w2.heap.size, g1, g2, cap1, cap2, rfl, ?_, by omega, ?_, ?_, ?_, ?_, ?_⟩
  · have a1 : Below w.heap.size w w1 := ((Below.refl _ _).drew).grown hgrow (Nat.le_refl _) (by intro k hk; cases hk)
    exact (a1.grown hgrow2 a1.size (by intro k hk; cases hk)).alloc (Nat.le_trans a1.size hgrow2.size) _
  · rw [hg2, hg1]; have := hgrow.size; simp only [hs_drew] at this; omega
  · exact hlt2
  · exact heap_alloc_new w2 _
  · have a1 : Upd [] w1 w2 := (Upd.refl _ _).grown hgrow2 (by intro k hk; cases hk)
    have := (owns_upd E1.out a1 (by simp)).alloc (.cells #[.int .i64 f, .bool hh, .slice ao n cap, .slice (some ⟨g1, 0, none⟩) (3 * f + 1) cap1, .slice (some ⟨g2, 0, none⟩) (3 * f + 1) cap2] 105)
    simpa using this
  · have := E2.out.alloc (.cells #[.int .i64 f, .bool hh, .slice ao n cap, .slice (some ⟨g1, 0, none⟩) (3 * f + 1) cap1, .slice (some ⟨g2, 0, none⟩) (3 * f + 1) cap2] 105)
    simpa using this

theorem idx3 (j : Nat) : ∃ i r, r < 3 ∧ j = i * 3 + r := ⟨j / 3, j % 3, Nat.mod_lt _ (by omega), by omega⟩

/-- The cells of a list of votes, as a list. -/
theorem votes_list {w : World} {b : Nat} {vs : List Vt} {D : List Nat} (h : VotesAt w b vs D) :
    ∃ xs : List Value, xs.length = vs.length * 3 ∧ b < w.heap.size ∧ (∀ u ∈ xs, u.oneCell' = true) ∧ (∀ W : World, W.heap[b]? = w.heap[b]? → ∀ j u, xs[j]? = some u → W.cell? ((⟨b, 0, none⟩ : Addr).add j) = some u) ∧
      ∀ i t, vs[i]? = some t → ∃ v, xs[i * 3]? = some (.bool t.has) ∧ xs[i * 3 + 1]? = some (.int .i64 t.sl) ∧ xs[i * 3 + 2]? = some v ∧ Bat w v t.batch ∧ ∀ k ∈ blkOf v, k ∈ D := by
  obtain ⟨arr, a1, a2, a3⟩ := h
  have hget : ∀ j, j < vs.length * 3 → (arr.toList.take (vs.length * 3))[j]? = arr[j]? := by
    intro j hj
    rw [List.getElem?_take, if_pos hj, Array.getElem?_toList]
  have hfa : ∀ i t, vs[i]? = some t → ∃ v, (arr.toList.take (vs.length * 3))[i * 3]? = some (.bool t.has) ∧ (arr.toList.take (vs.length * 3))[i * 3 + 1]? = some (.int .i64 t.sl) ∧ (arr.toList.take (vs.length * 3))[i * 3 + 2]? = some v ∧ Bat w v t.batch ∧ ∀ k ∈ blkOf v, k ∈ D := by
    intro i t hi
    have hil := (List.getElem?_eq_some_iff.1 hi).1
    obtain ⟨v, c1, c2, c3, c4, c5⟩ := a3 i t hi
    exact ⟨v, by rw [hget _ (by omega)]; exact c1, by rw [hget _ (by omega)]; exact c2, by rw [hget _ (by omega)]; exact c3, c4, c5⟩
  refine ⟨arr.toList.take (vs.length * 3), by simp; omega, block_lt a1, ?_, ?_, hfa⟩
  · intro u hu
    obtain ⟨j, hj⟩ := List.getElem?_of_mem hu
    have hjl : j < vs.length * 3 := by
      have := (List.getElem?_eq_some_iff.1 hj).1
      rw [List.length_take] at this
      omega
    obtain ⟨i, r, hr, rfl⟩ := idx3 j
    have hil : i < vs.length := by omega
    obtain ⟨v, c1, c2, c3, c4, _⟩ := hfa i vs[i] (by simp [hil])
    match r, hr with
    | 0, _ => rw [Nat.add_zero, c1] at hj; cases hj; rfl
    | 1, _ => rw [c2] at hj; cases hj; rfl
    | 2, _ =>
      rw [c3] at hj
      cases hj
      obtain ⟨ao, cap, rfl⟩ := bat_form c4
      rfl
  · intro W hW j u hj
    have hjl : j < vs.length * 3 := by
      have := (List.getElem?_eq_some_iff.1 hj).1
      rw [List.length_take] at this
      omega
    rw [addr_add, Nat.zero_add, block_cell (hW.trans a1), ← hget j hjl]
    exact hj

theorem votes_of_own {w w' : World} {B g n cap : Nat} {xs : List Value} {vs : List Vt} {D : List Nat} (hn : vs.length = n) (h : w'.ownsRow B 109 3 (.slice (some ⟨g, 0, none⟩) n cap) n xs) (hu : Upd [] w w')
    (hf : ∀ i t, vs[i]? = some t → ∃ v, xs[i * 3]? = some (.bool t.has) ∧ xs[i * 3 + 1]? = some (.int .i64 t.sl) ∧ xs[i * 3 + 2]? = some v ∧ Bat w v t.batch ∧ ∀ k ∈ blkOf v, k ∈ D) : VotesAt w' g vs D := by
  rcases h.2 with ⟨h', _⟩ | ⟨g', cap', cur, h', hb, hg, hnc, hcm, hcs, htake⟩
  · simp at h'
  · simp only [Value.slice.injEq, Option.some.injEq, Addr.mk.injEq, and_true, true_and] at h'
    obtain ⟨rfl, rfl⟩ := h'
    refine ⟨cur, hg, by rw [hcs, hn]; exact Nat.mul_le_mul_right _ hnc, fun i t hi => ?_⟩
    have hil := (List.getElem?_eq_some_iff.1 hi).1
    obtain ⟨v, c1, c2, c3, c4, c5⟩ := hf i t hi
    have hget : ∀ j, j < n * 3 → cur[j]? = xs[j]? := by
      intro j hj
      rw [← htake, List.getElem?_take, if_pos hj, Array.getElem?_toList]
    exact ⟨v, by rw [hget _ (by omega)]; exact c1, by rw [hget _ (by omega)]; exact c2, by rw [hget _ (by omega)]; exact c3, c4.upd hu (by simp), c5⟩

theorem slot_clone {w : World} {s bp bc cp cq f : Nat} {st : Sl} {D : List Nat} (h : SlotAt w s bp bc cp cq f st D) :
    Calls Try.prog 31 #[.pointer (some ⟨s, 0, none⟩)] w fun e w' => ∃ t bp' bc' cp' cq', e = .returned (.pointer (some ⟨t, 0, none⟩)) ∧ Below w.heap.size w w' ∧ w.heap.size ≤ t ∧ w.heap.size ≤ bp' ∧ w.heap.size ≤ bc' ∧ SlotAt w' t bp' bc' cp' cq' f st D := by
  obtain ⟨v, o1, o2, o3⟩ := h.own
  obtain ⟨ao, cap, hv⟩ := bat_form o2
  obtain ⟨xp, p1, p2, p3, p4, p5⟩ := votes_list h.ps
  obtain ⟨xc, c1, c2, c3, c4, c5⟩ := votes_list h.cs
  refine (clone_walk h.f2 st.has v ao st.batch.length cap hv xp xc cp cq (by rw [p1, h.pl]) (by rw [c1, h.cl]) o1 p2 c2 p4 c4 p3 c3).mono ?_
  rintro e w' ⟨t, gp, gc, cp', cq', he, hb, g1, g2, g3, ht, op, oc⟩
  have hu : Upd [] w w' := Upd.of_below hb
  have hlt : ∀ k ∈ D, k < w.heap.size := h.Dw
  refine ⟨t, gp, gc, cp', cq', he, hb, by omega, g1, by omega, ?_⟩
  exact {
    f1 := h.f1, f2 := h.f2
    own := ⟨v, ht, o2.upd hu (by simp), o3⟩
    ps := votes_of_own h.pl op hu p5
    cs := votes_of_own h.cl oc hu c5
    pl := h.pl, cl := h.cl
    sp := by omega, sc := by omega, pc := by omega
    Ds := fun hk => by have := hlt _ hk; omega
    Dp := fun hk => by have := hlt _ hk; omega
    Dc := fun hk => by have := hlt _ hk; omega
    Dw := fun k hk => Nat.lt_of_lt_of_le (hlt k hk) hb.size
    small := h.small }

end Go.Proofs.Ytdeadekeffficaa

/- The slot's contracts, its blocks behind one name. -/
namespace Go.Proofs.Ytdeadekeffficaa
open Go.RowKit Go.Heap

structure Loc where
  s : Nat
  bp : Nat
  bc : Nat
  cp : Nat
  cq : Nat
  f : Nat

def Loc.M (L : Loc) : List Nat := [L.s, L.bp, L.bc]
abbrev Loc.ptr (L : Loc) : Value := .pointer (some ⟨L.s, 0, none⟩)

/-- The slot at L is st; its batches keep out of the blocks A. -/
def On (w : World) (L : Loc) (st : Sl) (A : List Nat) : Prop :=
  ∃ D, SlotAt w L.s L.bp L.bc L.cp L.cq L.f st D ∧ (∀ k ∈ D, k ∉ A) ∧ ∀ k ∈ A, k < w.heap.size

theorem On.upd {w w' : World} {L : Loc} {st : Sl} {A N : List Nat} (h : On w L st A) (hu : Upd N w w') (hN : ∀ k ∈ N, k ∉ L.M ∧ k ∈ A) : On w' L st A := by
  obtain ⟨D, h1, h2, h3⟩ := h
  have hm : ∀ k, k ∈ L.M → k ∉ N := fun k hk hn => (hN k hn).1 hk
  refine ⟨D, h1.upd hu (hm _ (by simp [Loc.M])) (hm _ (by simp [Loc.M])) (hm _ (by simp [Loc.M])) (fun k hk hn => h2 k hk (hN k hn).2), h2, fun k hk => Nat.lt_of_lt_of_le (h3 k hk) hu.size⟩

theorem On.upd0 {w w' : World} {L : Loc} {st : Sl} {A : List Nat} (h : On w L st A) (hu : Upd [] w w') : On w' L st A := h.upd hu (by simp)
theorem On.below {w w' : World} {L : Loc} {st : Sl} {A : List Nat} (h : On w L st A) (hb : Below w.heap.size w w') : On w' L st A := h.upd0 (Upd.of_below hb)
theorem On.alloc {w : World} {L : Loc} {st : Sl} {A : List Nat} (h : On w L st A) (o : Obj) : On (w.alloc o) L st A := h.upd0 ((Upd.refl _ _).alloc o)

theorem On.lt {w : World} {L : Loc} {st : Sl} {A : List Nat} (h : On w L st A) : ∀ k ∈ L.M, k < w.heap.size := by
  obtain ⟨D, h1, _, _⟩ := h
  obtain ⟨_, _, l1, l2, l3, _⟩ := h1.cells
  intro k hk
  simp [Loc.M] at hk
  rcases hk with rfl | rfl | rfl <;> assumption

/-- Keep out of more: of blocks that are there and are none of its own batches'. -/
theorem On.avoid {w : World} {L : Loc} {st : Sl} {A A' : List Nat} (h : On w L st A) (hs : ∀ k ∈ A', k ∈ A) : On w L st A' := by
  obtain ⟨D, h1, h2, h3⟩ := h
  exact ⟨D, h1, fun k hk hn => h2 k hk (hs k hn), fun k hk => h3 k (hs k hk)⟩

theorem grow_out {D D' A : List Nat} {w : World} (h2 : ∀ k ∈ D, k ∉ A) (h3 : ∀ k ∈ A, k < w.heap.size) (hD : ∀ k ∈ D', k ∈ D ∨ w.heap.size ≤ k) : ∀ k ∈ D', k ∉ A := by
  intro k hk hn
  rcases hD k hk with h | h
  · exact h2 k h hn
  · have := h3 k hn; omega

theorem on_new (f : Nat) (h1 : 1 ≤ f) (h2 : f ≤ 4) (w : World) :
    Calls Try.prog 18 #[.int .i64 f] w fun e w' => ∃ L : Loc, e = .returned (.tuple #[L.ptr, .int .i64 0]) ∧ L.f = f ∧ Upd [] w w' ∧ (∀ k ∈ L.M, w.heap.size ≤ k) ∧ ∀ A, (∀ k ∈ A, k < w'.heap.size) → On w' L (emptySl f) A := by
  refine (slot_new f h1 h2 w).mono ?_
  rintro e w' ⟨s, bp, bc, he, hu, g1, g2, g3, h⟩
  refine ⟨⟨s, bp, bc, 3 * f + 1, 3 * f + 1, f⟩, he, rfl, hu, by simp [Loc.M]; omega, fun A hA => ⟨[], h, by simp, hA⟩⟩

theorem on_pre {w : World} {L : Loc} {st : Sl} {A : List Nat} (h : On w L st A) (v : Value) (rs : List Rq) (hb : Bat w v rs) (hn : rs.length ≤ 100000) :
    Calls Try.prog 20 #[L.ptr, v] w fun e w' => e = .returned (.bool (!st.has)) ∧ Upd L.M w w' ∧ On w' L (if st.has then st else { st with has := true, batch := rs }) A := by
  obtain ⟨D, h1, h2, h3⟩ := h
  refine (slot_pre h1 v rs hb hn).mono ?_
  rintro e w' ⟨he, hu, D', hD, h⟩
  exact ⟨he, hu.mono (by intro k _ hk; simp at hk; simp [Loc.M, hk]), D', h, grow_out h2 h3 hD, fun k hk => Nat.lt_of_lt_of_le (h3 k hk) hu.size⟩

theorem on_vote {w : World} {L : Loc} {st : Sl} {A : List Nat} (h : On w L st A) (kind node sl : Int) (v : Value) (rs : List Rq) (hb : Bat w v rs) (hn : rs.length ≤ 100000) :
    Calls Try.prog 22 #[L.ptr, .int .i64 kind, .int .i64 node, .int .i64 sl, v] w fun e w' => e = .returned (.bool (canVote st kind node)) ∧ Upd L.M w w' ∧ On w' L (voteS st kind node sl rs) A := by
  obtain ⟨D, h1, h2, h3⟩ := h
  refine (slot_vote h1 kind node sl v rs hb hn).mono ?_
  rintro e w' ⟨he, hu, D', hD, h⟩
  exact ⟨he, hu.mono (by intro k _ hk; simp [Loc.M] at hk ⊢; exact .inr hk), D', h, grow_out h2 h3 hD, fun k hk => Nat.lt_of_lt_of_le (h3 k hk) hu.size⟩

theorem on_voted {w : World} {L : Loc} {st : Sl} {A : List Nat} (h : On w L st A) (kind node : Int) :
    Calls Try.prog 28 #[L.ptr, .int .i64 kind, .int .i64 node] w fun e w' => e = .returned (.bool (votedB (listOf st kind) node)) ∧ w = w' :=
  let ⟨_, h1, _, _⟩ := h
  slot_voted h1 kind node

theorem on_chosen {w : World} {L : Loc} {st : Sl} {A : List Nat} (h : On w L st A) :
    Calls Try.prog 29 #[L.ptr] w fun e w' => ∃ u, e = .returned (.tuple #[u, .bool st.has]) ∧ Upd [] w w' ∧ On w' L st A ∧ Bat w' u (chosenS st) ∧ ∀ k ∈ blkOf u, w.heap.size ≤ k := by
  have h0 := h
  obtain ⟨D, h1, h2, h3⟩ := h
  refine (slot_chosen h1).mono ?_
  rintro e w' ⟨u, he, hu, hb, hn⟩
  exact ⟨u, he, hu, h0.upd0 hu, hb, fun k hk => (hn k hk).1⟩

theorem on_prepared {w : World} {L : Loc} {st : Sl} {A : List Nat} (h : On w L st A) :
    Calls Try.prog 23 #[L.ptr] w fun e w' => ∃ u, e = .returned (.tuple #[u, .bool (preparedS L.f st).isSome]) ∧ Upd [] w w' ∧ On w' L st A ∧ Vts w' u ((preparedS L.f st).getD []) ∧ ∀ k ∈ blkOf u, w.heap.size ≤ k := by
  have h0 := h
  obtain ⟨D, h1, h2, h3⟩ := h
  refine (slot_prepared h1).mono ?_
  rintro e w' ⟨u, he, hb, hv, hn⟩
  exact ⟨u, he, Upd.of_below hb, h0.below hb, hv, hn⟩

theorem on_committed {w : World} {L : Loc} {st : Sl} {A : List Nat} (h : On w L st A) :
    Calls Try.prog 24 #[L.ptr] w fun e w' => ∃ v u, e = .returned (.tuple #[v, u, .bool (committedS L.f st).isSome]) ∧ Upd [] w w' ∧ On w' L st A ∧ Bat w' v (batchOf (committedS L.f st)) ∧ Vts w' u (votesOf (committedS L.f st)) ∧ (∀ k ∈ blkOf v, w.heap.size ≤ k) ∧ ∀ k ∈ blkOf u, w.heap.size ≤ k := by
  have h0 := h
  obtain ⟨D, h1, h2, h3⟩ := h
  refine (slot_committed h1).mono ?_
  rintro e w' ⟨v, u, he, hb, q1, q2, q3, q4⟩
  exact ⟨v, u, he, Upd.of_below hb, h0.below hb, q1, q2, q3, q4⟩

theorem on_reset {w : World} {L : Loc} {st : Sl} {A : List Nat} (h : On w L st A) :
    Calls Try.prog 33 #[L.ptr] w fun e w' => ∃ bp bc, e = .returned (.tuple #[]) ∧ Upd [L.s] w w' ∧ w.heap.size ≤ bp ∧ w.heap.size ≤ bc ∧ On w' ⟨L.s, bp, bc, 3 * L.f + 1, 3 * L.f + 1, L.f⟩ (emptySl L.f) A := by
  obtain ⟨D, h1, h2, h3⟩ := h
  refine (slot_reset h1).mono ?_
  rintro e w' ⟨bp, bc, he, hu, g1, g2, h⟩
  exact ⟨bp, bc, he, hu, g1, g2, [], h, by simp, fun k hk => Nat.lt_of_lt_of_le (h3 k hk) hu.size⟩

theorem on_clone {w : World} {L : Loc} {st : Sl} {A : List Nat} (h : On w L st A) (_hA : ∀ k ∈ L.M, k ∈ A) :
    Calls Try.prog 31 #[L.ptr] w fun e w' => ∃ L' : Loc, e = .returned L'.ptr ∧ L'.f = L.f ∧ Upd [] w w' ∧ On w' L st A ∧ (∀ k ∈ L'.M, w.heap.size ≤ k) ∧ On w' L' st A ∧ On w' L st (L'.M ++ A) := by
  have h0 := h
  obtain ⟨D, h1, h2, h3⟩ := h
  refine (slot_clone h1).mono ?_
  rintro e w' ⟨t, bp, bc, cp, cq, he, hb, g1, g2, g3, h⟩
  refine ⟨⟨t, bp, bc, cp, cq, L.f⟩, he, rfl, Upd.of_below hb, h0.below hb, by simp [Loc.M]; omega, ⟨D, h, h2, fun k hk => Nat.lt_of_lt_of_le (h3 k hk) hb.size⟩, ?_⟩
  have hl := h.cells
  obtain ⟨_, _, l1, l2, l3, _⟩ := hl
  refine ⟨D, h1.upd (Upd.of_below (M := []) hb) (by simp) (by simp) (by simp) (by simp), ?_, ?_⟩
  · intro k hk hn
    rcases List.mem_append.1 hn with hn | hn
    · have := h1.Dw k hk
      simp [Loc.M] at hn
      omega
    · exact h2 k hk hn
  · intro k hk
    rcases List.mem_append.1 hk with hk | hk
    · simp [Loc.M] at hk
      rcases hk with rfl | rfl | rfl <;> assumption
    · exact Nat.lt_of_lt_of_le (h3 k hk) hb.size

end Go.Proofs.Ytdeadekeffficaa

/- Helps of the statements: Within, Nodes, Quorum, Same. -/
namespace Go.Proofs.Ytdeadekeffficaa
open Go.RowKit Go.Heap

theorem tmod_in (v n : Int) (h : 1 ≤ n) : -n < v.tmod n ∧ v.tmod n < n := by
  have h1 := Int.tmod_lt_of_pos v (show 0 < n by omega)
  have h2 := Int.lt_tmod_of_pos v (show 0 < n by omega)
  exact ⟨h2, h1⟩

theorem tmod_emod (v n : Int) (h : 1 ≤ n) : v % n = if v.tmod n < 0 then v.tmod n + n else v.tmod n := by
  have h1 := Int.mul_tdiv_add_tmod v n
  have h2 := tmod_in v n h
  have h3 : v % n = v.tmod n % n := by
    conv => lhs; rw [← h1]
    rw [Int.mul_add_emod_self_left]
  rw [h3]
  split
  · rw [← Int.add_emod_right, Int.emod_eq_of_lt (by omega) (by omega)]
  · rw [Int.emod_eq_of_lt (by omega) (by omega)]

set_option maxHeartbeats 400000 in
theorem Within_any (v n : Int) (w : World) (h0 : 1 ≤ n) (h1 : n ≤ 1000000) :
    Calls Try.prog 17 #[.int .i64 v, .int .i64 n] w fun e w' => e = .returned (.int .i64 (v % n)) ∧ w = w' := by
  obtain ⟨b1, b2⟩ := tmod_in v n h0
  have H := Lib.hid (tmod_emod v n h0)
  go_enter Try.func17, Try.ntmps17
  go_wp2
  all_goals
    go_ret
    refine ⟨ret_int ?_, rfl⟩
    have h := H.out
    split at h <;> omega

theorem emod_in (v n : Int) (h : 1 ≤ n) : 0 ≤ v % n ∧ v % n < n := ⟨Int.emod_nonneg _ (by omega), Int.emod_lt_of_pos _ (by omega)⟩

/-- 1 + Within(f, 4) as a natural number from 1 to 4. -/
theorem f_of (v : Int) : ∃ f : Nat, 1 ≤ f ∧ f ≤ 4 ∧ 1 + v % 4 = f := by
  obtain ⟨h1, h2⟩ := emod_in v 4 (by omega)
  exact ⟨(1 + v % 4).toNat, by omega, by omega, by omega⟩

set_option maxHeartbeats 400000 in
theorem rnodes_any (f : Int) (w : World) (h1 : 1 ≤ f) (h2 : f ≤ 4) : Calls Try.prog 21 #[.int .i64 f] w fun e w' => e = .returned (.int .i64 (3 * f + 1)) ∧ w = w' := by
  go_enter Try.func21, Try.ntmps21
  go_wp2
  go_ret
  exact ⟨rfl, rfl⟩

set_option maxHeartbeats 400000 in
theorem rquorum_any (f : Int) (w : World) (h1 : 1 ≤ f) (h2 : f ≤ 4) : Calls Try.prog 27 #[.int .i64 f] w fun e w' => e = .returned (.int .i64 (2 * f + 1)) ∧ w = w' := by
  go_enter Try.func27, Try.ntmps27
  go_wp2
  go_ret
  exact ⟨rfl, rfl⟩

theorem Try.stoodVote : Try.prog.stoodInHeld 44 = false := by kernel_rfl
theorem Try.guardVote : Try.prog.eqGuardType Try.prog.depth 44 = false := by kernel_rfl

theorem run_equal_vote (a b c d : Int) (w : World) : (Op.equalIn 10000 44 (.agg #[.int .i64 a, .int .i64 b]) (.agg #[.int .i64 c, .int .i64 d])).run Try.prog w = .ok (decide ((a, b) = (c, d))) w := by
  simp [go_sem]
  by_cases h1 : a = c
  · by_cases h2 : b = d <;> simp [*]
  · simp [*]

theorem vts_cells {w : World} {b o : Nat} {rs : Vs} (hc : ∀ j, j < rs.length * 2 → w.cell? ⟨b, o + j, none⟩ = (vsCells rs)[j]?) (k : Nat) (p : Int × Int) (hp : rs[k]? = some p) :
    w.cell? ⟨b, o + k * 2, none⟩ = some (.int .i64 p.1) ∧ w.cell? ⟨b, o + k * 2 + 1, none⟩ = some (.int .i64 p.2) := by
  have hk := (List.getElem?_eq_some_iff.1 hp).1
  obtain ⟨e0, e1⟩ := vsCells_get rs k p hp
  exact ⟨(hc _ (by omega)).trans e0, (hc (k * 2 + 1) (by omega)).trans e1⟩

set_option maxHeartbeats 400000 in
theorem sameV_any (v u : Value) (rs ss : Vs) (w : World) (hn : rs.length ≤ 100000) (hm : ss.length ≤ 100000) (h : Vts w v rs) (h' : Vts w u ss) :
    Calls Try.prog 25 #[v, u] w fun e w' => e = .returned (.bool (decide (rs = ss))) ∧ Upd [] w w' := by
  obtain ⟨ao, cap, rfl, h1, h2, h3, h4, h5⟩ := h
  obtain ⟨bo, cap', rfl, k1, k2, k3, k4, k5⟩ := h'
  clear h1 h2 h3 h4 k1 k2 k3 k4
  have H5 := Lib.hid h5
  have K5 := Lib.hid k5
  clear h5 k5
  by_cases hlen : rs.length = ss.length
  · have HL := Lib.hid hlen
    have hlb : ((rs.length : Int) != (ss.length : Int)) = false := by simp [hlen]
    have hle1 : rs.length ≤ ss.length := by omega
    have hle2 : ss.length ≤ rs.length := by omega
    clear hlen
    go_enter Try.func25, Try.ntmps25
    go_wp2_with fail
    go_loopw [5] (fun i wr => ∃ k : Nat, k ≤ rs.length ∧ i = .int .i64 k ∧ rs.take k = ss.take k ∧ Below w.heap.size w wr) (fun i _ => rs.length - (intOf i).toNat)
    case atStart => exact ⟨0, by omega, rfl, by simp, Below.refl _ _⟩
    case round =>
      obtain ⟨k, hk, rfl, he, hb⟩ := hrel
      have HE := Lib.hid he
      clear he
      by_cases hlt : k < rs.length
      · obtain ⟨b, o, rfl, hbs, hc⟩ := H5.out (by omega)
        obtain ⟨b', o', rfl, hbs', hc'⟩ := K5.out (by omega)
        have hlt' : k < ss.length := by omega
        obtain ⟨q0, q1⟩ := vts_cells (cells_below hb hbs hc) k rs[k] (by simp)
        obtain ⟨p0, p1⟩ := vts_cells (cells_below hb hbs' hc') k ss[k] (by simp)
        clear hc hc'
        have hkI : (k : Int) < (ss.length : Int) := by omega
        have hkJ : (k : Int) < (rs.length : Int) := by omega
        by_cases he : rs[k] = ss[k]
        · have heq : ∀ wx, (Op.equalIn 10000 44 (.agg #[.int .i64 rs[k].1, .int .i64 rs[k].2]) (.agg #[.int .i64 ss[k].1, .int .i64 ss[k].2])).run Try.prog wx = .ok true wx := fun wx => by rw [run_equal_vote]; simp [he]
          have HEK := Lib.hid he
          clear he
          have hgd := Try.guardVote
          go_wp2_with fail
          go_quiet (fail)
          go_wp2_with fail
          go_roundw
          case rel => exact ⟨k + 1, by omega, by go_num, take_same HE.out hlt hlt' HEK.out, below_drewN hb _⟩
          case measure => simp [intOf]; omega
        · have heq : ∀ wx, (Op.equalIn 10000 44 (.agg #[.int .i64 rs[k].1, .int .i64 rs[k].2]) (.agg #[.int .i64 ss[k].1, .int .i64 ss[k].2])).run Try.prog wx = .ok false wx := fun wx => by rw [run_equal_vote]; simp; exact fun h1 h2 => he (Prod.ext h1 h2)
          have HEK := Lib.hid he
          clear he
          have hgd := Try.guardVote
          go_wp2_with fail
          go_quiet (fail)
          go_wp2_with fail
          go_ret
          refine ⟨ret_bool ?_, Upd.of_below (below_drewN hb _)⟩
          symm
          rw [decide_eq_false_iff_not]
          intro e
          subst e
          exact HEK.out rfl
      · go_wp2_with fail
        go_ret
        refine ⟨ret_bool ?_, Upd.of_below hb⟩
        symm
        rw [decide_eq_true_iff]
        have h1 := HE.out
        rw [List.take_of_length_le (by omega), List.take_of_length_le (by omega)] at h1
        exact h1
  · have hlb : ((rs.length : Int) != (ss.length : Int)) = true := by simp; omega
    have HL := Lib.hid hlen
    clear hlen
    go_enter Try.func25, Try.ntmps25
    go_wp2_with fail
    go_ret
    refine ⟨ret_bool ?_, Upd.refl _ _⟩
    symm
    rw [decide_eq_false_iff_not]
    intro e
    exact HL.out (by rw [e])

set_option maxHeartbeats 400000 in
theorem sameR_any (v u : Value) (rs ss : List Rq) (w : World) (hn : rs.length ≤ 100000) (hm : ss.length ≤ 100000) (h : Bat w v rs) (h' : Bat w u ss) :
    Calls Try.prog 26 #[v, u] w fun e w' => e = .returned (.bool (decide (rs = ss))) ∧ Upd [] w w' := by
  obtain ⟨ao, cap, rfl, h1, h2, h3, h4, h5⟩ := h
  obtain ⟨bo, cap', rfl, k1, k2, k3, k4, k5⟩ := h'
  clear h1 h2 h3 h4 k1 k2 k3 k4
  have H5 := Lib.hid h5
  have K5 := Lib.hid k5
  clear h5 k5
  by_cases hlen : rs.length = ss.length
  · have HL := Lib.hid hlen
    have hlb : ((rs.length : Int) != (ss.length : Int)) = false := by simp [hlen]
    have hle1 : rs.length ≤ ss.length := by omega
    have hle2 : ss.length ≤ rs.length := by omega
    clear hlen
    go_enter Try.func26, Try.ntmps26
    go_wp2_with fail
    go_loopw [5] (fun i wr => ∃ k : Nat, k ≤ rs.length ∧ i = .int .i64 k ∧ rs.take k = ss.take k ∧ Below w.heap.size w wr) (fun i _ => rs.length - (intOf i).toNat)
    case atStart => exact ⟨0, by omega, rfl, by simp, Below.refl _ _⟩
    case round =>
      obtain ⟨k, hk, rfl, he, hb⟩ := hrel
      have HE := Lib.hid he
      clear he
      by_cases hlt : k < rs.length
      · obtain ⟨b, o, rfl, hbs, hc⟩ := H5.out (by omega)
        obtain ⟨b', o', rfl, hbs', hc'⟩ := K5.out (by omega)
        have hlt' : k < ss.length := by omega
        obtain ⟨q0, q1, q2, q3, q4, q5⟩ := bat_cells (cells_below hb hbs hc) k rs[k] (by simp)
        obtain ⟨p0, p1, p2, p3, p4, p5⟩ := bat_cells (cells_below hb hbs' hc') k ss[k] (by simp)
        clear hc hc'
        have hkI : (k : Int) < (ss.length : Int) := by omega
        have hkJ : (k : Int) < (rs.length : Int) := by omega
        by_cases he : rs[k] = ss[k]
        · have heq : ∀ wx, (Op.equalIn 10000 32 (rqAgg rs[k]) (rqAgg ss[k])).run Try.prog wx = .ok true wx := fun wx => by rw [run_equal_req]; simp [he]
          have HEK := Lib.hid he
          clear he
          unfold rqAgg at heq
          have hgd := Try.guardReq
          go_wp2_with fail
          go_quiet (fail)
          go_wp2_with fail
          go_roundw
          case rel => exact ⟨k + 1, by omega, by go_num, take_same HE.out hlt hlt' HEK.out, below_drewN hb _⟩
          case measure => simp [intOf]; omega
        · have heq : ∀ wx, (Op.equalIn 10000 32 (rqAgg rs[k]) (rqAgg ss[k])).run Try.prog wx = .ok false wx := fun wx => by rw [run_equal_req]; simp [he]
          have HEK := Lib.hid he
          clear he
          unfold rqAgg at heq
          have hgd := Try.guardReq
          go_wp2_with fail
          go_quiet (fail)
          go_wp2_with fail
          go_ret
          refine ⟨ret_bool ?_, Upd.of_below (below_drewN hb _)⟩
          symm
          rw [decide_eq_false_iff_not]
          intro e
          subst e
          exact HEK.out rfl
      · go_wp2_with fail
        go_ret
        refine ⟨ret_bool ?_, Upd.of_below hb⟩
        symm
        rw [decide_eq_true_iff]
        have h1 := HE.out
        rw [List.take_of_length_le (by omega), List.take_of_length_le (by omega)] at h1
        exact h1
  · have hlb : ((rs.length : Int) != (ss.length : Int)) = true := by simp; omega
    have HL := Lib.hid hlen
    clear hlen
    go_enter Try.func26, Try.ntmps26
    go_wp2_with fail
    go_ret
    refine ⟨ret_bool ?_, Upd.refl _ _⟩
    symm
    rw [decide_eq_false_iff_not]
    intro e
    exact HL.out (by rw [e])

end Go.Proofs.Ytdeadekeffficaa

/- Slots and batches as resources. -/
namespace Go.Proofs.Ytdeadekeffficaa
open Go.RowKit Go.Heap

theorem VotesAt.dep {w w' : World} {b : Nat} {vs : List Vt} {D : List Nat} (h : VotesAt w b vs D) (hk : ∀ k, k = b ∨ k ∈ D → w'.heap[k]? = w.heap[k]?) (hs : w.heap.size ≤ w'.heap.size) : VotesAt w' b vs D := by
  obtain ⟨arr, h1, h2, h3⟩ := h
  refine ⟨arr, by rw [hk b (.inl rfl)]; exact h1, h2, fun i t hi => ?_⟩
  obtain ⟨v, a1, a2, a3, a4, a5⟩ := h3 i t hi
  exact ⟨v, a1, a2, a3, Reads.keep a4 (fun k hkb _ => hk k (.inr (a5 k hkb))) hs, a5⟩

theorem SlotAt.dep {w w' : World} {s bp bc cp cq f : Nat} {st : Sl} {D : List Nat} (h : SlotAt w s bp bc cp cq f st D) (hk : ∀ k, k ∈ [s, bp, bc] ∨ k ∈ D → w'.heap[k]? = w.heap[k]?) (hs : w.heap.size ≤ w'.heap.size) : SlotAt w' s bp bc cp cq f st D := by
  obtain ⟨v, a1, a2, a3⟩ := h.own
  exact { h with
    own := ⟨v, by rw [hk s (by simp)]; exact a1, Reads.keep a2 (fun k hkb _ => hk k (.inr (a3 k hkb))) hs, a3⟩
    ps := h.ps.dep (fun k hkb => hk k (hkb.imp (fun e => by simp [e]) id)) hs
    cs := h.cs.dep (fun k hkb => hk k (hkb.imp (fun e => by simp [e]) id)) hs
    Dw := fun k hkD => Nat.lt_of_lt_of_le (h.Dw k hkD) hs }

def slotR (L : Loc) (st : Sl) : Res where
  M := L.M
  Q := fun w D => SlotAt w L.s L.bp L.bc L.cp L.cq L.f st D
  dep := fun h hk hs => h.dep hk hs
  lt := fun {w D} h k hk => hk.elim (fun hk => On.lt (A := []) ⟨D, h, by simp, by simp⟩ k hk) (fun hk => h.Dw k hk)
  sep := fun h k hk hn => by
    simp [Loc.M] at hk
    rcases hk with rfl | rfl | rfl
    · exact h.Ds hn
    · exact h.Dp hn
    · exact h.Dc hn

/-- A batch that is only read. -/
def BatIn (w : World) (v : Value) (rs : List Rq) (D : List Nat) : Prop := ReadsIn w v 6 rs.length (rqsCells rs) D

theorem Bat.lies {w : World} {v : Value} {rs : List Rq} (h : Bat w v rs) : BatIn w v rs (blkIf rs.length v) := Reads.lies h
theorem BatIn.bat {w : World} {v : Value} {rs : List Rq} {D : List Nat} (h : BatIn w v rs D) : Bat w v rs := h.1

def batR (v : Value) (rs : List Rq) : Res := imm (fun w D => BatIn w v rs D) (fun h hk hs => ReadsIn.dep h hk hs)

theorem batR_out {v : Value} {rs : List Rq} {w : World} {A : List Nat} (h : (batR v rs).At w A) : Bat w v rs := let ⟨_, h, _⟩ := h; h.1.1

section
variable {B : Nat} {w0 W W' : World} {rs : List Res} {L : Loc} {st : Sl}

theorem own_on (h : Own B w0 W (slotR L st :: rs)) : On W L st (Ms (slotR L st :: rs)) := h.head

theorem own_small (h : Own B w0 W (slotR L st :: rs)) : st.batch.length ≤ 100000 ∧ (∀ t ∈ st.ps, t.batch.length ≤ 100000) ∧ (∀ t ∈ st.cs, t.batch.length ≤ 100000) ∧ st.ps.length = 3 * L.f + 1 ∧ st.cs.length = 3 * L.f + 1 := by
  obtain ⟨D, h1, _, _⟩ := own_on h
  exact ⟨h1.small.1, h1.small.2.1, h1.small.2.2, h1.pl, h1.cl⟩

theorem own_bat (h : Own B w0 W rs) {v : Value} {l : List Rq} (hb : Bat W v l) (hk : ∀ k ∈ blkIf l.length v, k < B ∨ w0.heap.size ≤ k ∧ k ∉ Ms rs) : Own B w0 W (batR v l :: rs) :=
  h.new (Upd.refl [] _) ⟨blkIf l.length v, ⟨hb.lies, Reads.lies_lt hb⟩, fun k hkD => (hk k hkD).elim (fun hl => h.elder hl) (·.2), fun k hkA => h.lt k hkA⟩ (by simp [batR, imm])

theorem own_new (f : Nat) (h1 : 1 ≤ f) (h2 : f ≤ 4) (h : Own B w0 W rs) :
    Calls Try.prog 18 #[.int .i64 f] W fun e w' => ∃ L : Loc, e = .returned (.tuple #[L.ptr, .int .i64 0]) ∧ L.f = f ∧ Upd [] W w' ∧ Own B w0 w' (slotR L (emptySl f) :: rs) := by
  refine (on_new f h1 h2 W).mono ?_
  rintro e w' ⟨L, he, hf, hu, hM, hon⟩
  exact ⟨L, he, hf, hu, h.new (r := slotR L (emptySl f)) hu (hon (Ms rs) (fun k hk => Nat.lt_of_lt_of_le (h.lt k hk) hu.size)) hM⟩

theorem own_pre (h : Own B w0 W (slotR L st :: rs)) (v : Value) (l : List Rq) (hb : Bat W v l) (hn : l.length ≤ 100000) :
    Calls Try.prog 20 #[L.ptr, v] W fun e w' => e = .returned (.bool (!st.has)) ∧ Upd L.M W w' ∧ Own B w0 w' (slotR L (if st.has then st else { st with has := true, batch := l }) :: rs) := by
  refine (on_pre (own_on h) v l hb hn).mono ?_
  rintro e w' ⟨he, hu, hon⟩
  exact ⟨he, hu, h.step (r' := slotR L _) hu hon (fun k hk => .inl hk)⟩

theorem own_vote (h : Own B w0 W (slotR L st :: rs)) (kind node sl : Int) (v : Value) (l : List Rq) (hb : Bat W v l) (hn : l.length ≤ 100000) :
    Calls Try.prog 22 #[L.ptr, .int .i64 kind, .int .i64 node, .int .i64 sl, v] W fun e w' => e = .returned (.bool (canVote st kind node)) ∧ Upd L.M W w' ∧ Own B w0 w' (slotR L (voteS st kind node sl l) :: rs) := by
  refine (on_vote (own_on h) kind node sl v l hb hn).mono ?_
  rintro e w' ⟨he, hu, hon⟩
  exact ⟨he, hu, h.step (r' := slotR L _) hu hon (fun k hk => .inl hk)⟩

theorem own_reset (h : Own B w0 W (slotR L st :: rs)) :
    Calls Try.prog 33 #[L.ptr] W fun e w' => ∃ L' : Loc, e = .returned (.tuple #[]) ∧ L'.f = L.f ∧ L'.s = L.s ∧ Upd L.M W w' ∧ Own B w0 w' (slotR L' (emptySl L.f) :: rs) := by
  obtain ⟨D, h1, h2, h3⟩ := own_on h
  refine (slot_reset h1).mono ?_
  rintro e w' ⟨bp, bc, he, hu, g1, g2, h4⟩
  have hu' : Upd L.M W w' := hu.mono (by intro k _ hk; simp at hk; simp [Loc.M, hk])
  refine ⟨⟨L.s, bp, bc, 3 * L.f + 1, 3 * L.f + 1, L.f⟩, he, rfl, rfl, hu', h.step (r' := slotR ⟨L.s, bp, bc, 3 * L.f + 1, 3 * L.f + 1, L.f⟩ (emptySl L.f)) hu' ⟨[], h4, by simp, fun k hk => Nat.lt_of_lt_of_le (h3 k hk) hu.size⟩ (fun k hk => ?_)⟩
  simp [slotR, Loc.M] at hk ⊢
  omega

theorem own_clone (h : Own B w0 W (slotR L st :: rs)) :
    Calls Try.prog 31 #[L.ptr] W fun e w' => ∃ L' : Loc, e = .returned L'.ptr ∧ L'.f = L.f ∧ Upd [] W w' ∧ Own B w0 w' (slotR L' st :: slotR L st :: rs) := by
  obtain ⟨D, h1, h2, h3⟩ := own_on h
  refine (slot_clone h1).mono ?_
  rintro e w' ⟨t, bp, bc, cp, cq, he, hb, g1, g2, g3, h4⟩
  have hu : Upd [] W w' := Upd.of_below hb
  exact ⟨⟨t, bp, bc, cp, cq, L.f⟩, he, rfl, hu, h.new (r := slotR ⟨t, bp, bc, cp, cq, L.f⟩ st) hu ⟨D, h4, h2, fun k hk => Nat.lt_of_lt_of_le (h3 k hk) hu.size⟩ (by simp [slotR, Loc.M]; omega)⟩

theorem own_voted (h : Own B w0 W (slotR L st :: rs)) (kind node : Int) :
    Calls Try.prog 28 #[L.ptr, .int .i64 kind, .int .i64 node] W fun e w' => e = .returned (.bool (votedB (listOf st kind) node)) ∧ W = w' := on_voted (own_on h) kind node

theorem own_chosen (h : Own B w0 W (slotR L st :: rs)) :
    Calls Try.prog 29 #[L.ptr] W fun e w' => ∃ u, e = .returned (.tuple #[u, .bool st.has]) ∧ Upd [] W w' ∧ Bat w' u (chosenS st) ∧ ∀ k ∈ blkOf u, W.heap.size ≤ k := by
  refine (on_chosen (own_on h)).mono ?_
  rintro e w' ⟨u, he, hu, _, hb, hn⟩
  exact ⟨u, he, hu, hb, hn⟩

theorem own_prepared (h : Own B w0 W (slotR L st :: rs)) :
    Calls Try.prog 23 #[L.ptr] W fun e w' => ∃ u, e = .returned (.tuple #[u, .bool (preparedS L.f st).isSome]) ∧ Upd [] W w' ∧ Vts w' u ((preparedS L.f st).getD []) ∧ ∀ k ∈ blkOf u, W.heap.size ≤ k := by
  refine (on_prepared (own_on h)).mono ?_
  rintro e w' ⟨u, he, hu, _, hb, hn⟩
  exact ⟨u, he, hu, hb, hn⟩

theorem own_committed (h : Own B w0 W (slotR L st :: rs)) :
    Calls Try.prog 24 #[L.ptr] W fun e w' => ∃ v u, e = .returned (.tuple #[v, u, .bool (committedS L.f st).isSome]) ∧ Upd [] W w' ∧ Bat w' v (batchOf (committedS L.f st)) ∧ Vts w' u (votesOf (committedS L.f st)) ∧ (∀ k ∈ blkOf v, W.heap.size ≤ k) ∧ ∀ k ∈ blkOf u, W.heap.size ≤ k := by
  refine (on_committed (own_on h)).mono ?_
  rintro e w' ⟨v, u, he, hu, _, q1, q2, q3, q4⟩
  exact ⟨v, u, he, hu, q1, q2, q3, q4⟩

end
end Go.Proofs.Ytdeadekeffficaa

/- More resources: several as one; rows of cells; rows that grow. No program. -/
namespace Go.Heap
open Go Go.RowKit

section
variable {r r' s : Res} {w w' W W' w0 : World} {A A' N : List Nat} {rs ss : List Res} {B : Nat}

theorem Ms_append (rs ss : List Res) (k : Nat) : k ∈ Ms (rs ++ ss) ↔ k ∈ Ms rs ∨ k ∈ Ms ss := by simp [Ms]

/-- Several resources as one. -/
def joinR (rs : List Res) : Res where
  M := Ms rs
  Q := fun w D => (∀ r ∈ rs, ∃ D', r.Q w D' ∧ ∀ k ∈ D', k ∈ D) ∧ rs.Pairwise (fun (r s : Res) => ∀ k ∈ r.M, k ∉ s.M) ∧ ∀ k ∈ D, k < w.heap.size ∧ k ∉ Ms rs
  dep := fun ⟨h1, h2, h3⟩ hk hs => ⟨fun r hr => by
    obtain ⟨D', q1, q2⟩ := h1 r hr
    exact ⟨D', r.dep q1 (fun k hkk => hk k (hkk.imp (fun h => mem_Ms hr h) (q2 k))) hs, q2⟩, h2, fun k hkD => ⟨Nat.lt_of_lt_of_le (h3 k hkD).1 hs, (h3 k hkD).2⟩⟩
  lt := fun ⟨h1, _, h3⟩ k hk => by
    rcases hk with hk | hk
    · obtain ⟨r, hr, hk⟩ := (Ms_iff _ _).1 hk
      obtain ⟨D', q1, _⟩ := h1 r hr
      exact r.lt q1 k (.inl hk)
    · exact (h3 k hk).1
  sep := fun ⟨_, _, h3⟩ k hk hn => (h3 k hn).2 hk

theorem Own.open (h : Own B w0 W (joinR rs :: ss)) : Own B w0 W (rs ++ ss) := by
  obtain ⟨D, ⟨h1, h2, h3⟩, h4, h5⟩ := h.head
  have hm : ∀ k, k ∈ Ms (rs ++ ss) ↔ k ∈ Ms (joinR rs :: ss) := fun k => by rw [Ms_append, Ms_cons]; rfl
  have hap := List.pairwise_cons.1 h.apart
  refine ⟨h.below, h.size, fun r hr => ?_, ?_⟩
  · rcases List.mem_append.1 hr with hr | hr
    · obtain ⟨D', q1, q2⟩ := h1 r hr
      exact ⟨⟨D', q1, fun k hk hn => h4 k (q2 k hk) ((hm k).1 hn), fun k hk => h5 k ((hm k).1 hk)⟩, fun k hk => (h.all _ List.mem_cons_self).2 k (mem_Ms hr hk)⟩
    · obtain ⟨q1, q2⟩ := h.all r (List.mem_cons_of_mem _ hr)
      exact ⟨q1.avoid (fun k hk => (hm k).1 hk), q2⟩
  · rw [List.pairwise_append]
    exact ⟨h2, hap.2, fun r hr s hs k hk => hap.1 s hs k (mem_Ms hr hk)⟩

theorem Own.shut (h : Own B w0 W (rs ++ ss)) : Own B w0 W (joinR rs :: ss) := by
  have hm : ∀ k, k ∈ Ms (rs ++ ss) ↔ k ∈ Ms (joinR rs :: ss) := fun k => by rw [Ms_append, Ms_cons]; rfl
  obtain ⟨p1, p2, p3⟩ := List.pairwise_append.1 h.apart
  have hD : ∀ k, k ∈ (List.range W.heap.size).filter (fun k => decide (k ∉ Ms (rs ++ ss))) ↔ k < W.heap.size ∧ k ∉ Ms (rs ++ ss) := fun k => by simp
  refine ⟨h.below, h.size, fun r hr => ?_, ?_⟩
  · rcases List.mem_cons.1 hr with rfl | hr
    · refine ⟨⟨_, ⟨fun r hr => ?_, p1, fun k hk => ⟨((hD k).1 hk).1, fun hn => ((hD k).1 hk).2 ((Ms_append _ _ _).2 (.inl hn))⟩⟩, fun k hk hn => ((hD k).1 hk).2 ((hm k).2 hn), fun k hk => h.lt k ((hm k).2 hk)⟩, fun k hk => ?_⟩
      · obtain ⟨⟨D', q1, q2, q3⟩, _⟩ := h.all r (List.mem_append_left _ hr)
        exact ⟨D', q1, fun k hk => (hD k).2 ⟨r.lt q1 k (.inr hk), q2 k hk⟩⟩
      · obtain ⟨s, hs, hk⟩ := (Ms_iff _ _).1 hk
        exact (h.all s (List.mem_append_left _ hs)).2 k hk
    · obtain ⟨q1, q2⟩ := h.all r (List.mem_append_right _ hr)
      exact ⟨q1.avoid (fun k hk => (hm k).2 hk), q2⟩
  · rw [List.pairwise_cons]
    exact ⟨fun s hs k hk => by
      obtain ⟨r, hr, hk⟩ := (Ms_iff _ _).1 hk
      exact p3 r hr s hs k hk, p2⟩

/-! ### The k-th of a row of resources -/

theorem perm_at {α : Type} (l : List α) (k : Nat) (hk : k < l.length) : l.Perm (l[k] :: l.eraseIdx k) := by
  conv => lhs; rw [← List.take_append_drop k l, ← List.getElem_cons_drop hk]
  rw [List.eraseIdx_eq_take_drop_succ]
  exact List.perm_middle

theorem perm_set {α : Type} (l : List α) (k : Nat) (hk : k < l.length) (x : α) : (l.set k x).Perm (x :: l.eraseIdx k) := by
  have h := perm_at (l.set k x) k (by simpa using hk)
  rwa [List.getElem_set_self, List.eraseIdx_set_eq] at h

/-- The k-th of the resources behind the first ones comes to the head. -/
theorem Own.pick {α : Type} {f : α → Res} {l : List α} {hd : List Res} (h : Own B w0 W (hd ++ (l.map f ++ ss))) (k : Nat) (hk : k < l.length) : Own B w0 W (f l[k] :: (hd ++ ((l.eraseIdx k).map f ++ ss))) := by
  refine h.perm (List.Perm.trans (List.Perm.append_left hd (List.Perm.append_right ss ((perm_at l k hk).map f))) ?_)
  exact List.perm_middle

theorem Own.unpick {α : Type} {f : α → Res} {l : List α} {hd : List Res} {x : α} (k : Nat) (hk : k < l.length) (h : Own B w0 W (f x :: (hd ++ ((l.eraseIdx k).map f ++ ss)))) : Own B w0 W (hd ++ ((l.set k x).map f ++ ss)) := by
  refine h.perm (List.Perm.trans List.perm_middle.symm ?_)
  exact List.Perm.append_left hd (List.Perm.append_right ss ((perm_set l k hk x).map f).symm)

/-- A slice that is only read, as a resource. -/
def redR (v : Value) (sz n : Nat) (xs : List Value) : Res := imm (fun w D => ReadsIn w v sz n xs D) (fun h hk hs => ReadsIn.dep h hk hs)
theorem redR_out {v : Value} {sz n : Nat} {xs : List Value} (h : (redR v sz n xs).At w A) : Reads w v sz n xs := let ⟨_, h, _⟩ := h; h.1.1
theorem Own.red {v : Value} {sz n : Nat} {xs : List Value} (h : Own B w0 W rs) (hr : Reads W v sz n xs) (hk : ∀ k ∈ blkIf n v, k ∉ Ms rs) : Own B w0 W (redR v sz n xs :: rs) :=
  h.new (Upd.refl [] _) ⟨blkIf n v, ⟨hr.lies, Reads.lies_lt hr⟩, hk, fun k hkA => h.lt k hkA⟩ (by simp [redR, imm])

/-! ### A block whose first cells are known -/

def segR (b : Nat) (T : TypeId) (vals : List Value) : Res where
  M := [b]
  Q := fun w D => (∃ cur, w.heap[b]? = some (.cells cur T (0, 0)) ∧ vals.length ≤ cur.size ∧ ∀ j, j < vals.length → cur[j]? = vals[j]?) ∧ D = []
  dep := fun ⟨⟨cur, h1, h2⟩, e⟩ hk _ => ⟨⟨cur, (hk _ (by simp)).trans h1, h2⟩, e⟩
  lt := fun ⟨⟨cur, h1, h2⟩, e⟩ k hk => by subst e; simp at hk; subst hk; exact block_lt h1
  sep := fun ⟨_, e⟩ k _ hn => by rw [e] at hn; simp at hn

theorem segR_at {b : Nat} {T : TypeId} {vals : List Value} (h : (segR b T vals).At w A) : b < w.heap.size ∧ (∀ j, j < vals.length → w.cell? ⟨b, j, none⟩ = vals[j]?) ∧ ∀ o, w.frozen? ⟨b, o, none⟩ = false := by
  obtain ⟨D, ⟨⟨cur, h1, h2, h3⟩, -⟩, -, -⟩ := h
  exact ⟨block_lt h1, fun j hj => by rw [block_cell h1]; exact h3 j hj, block_frozen h1⟩

theorem Own.put {b : Nat} {T : TypeId} {vals : List Value} (h : Own B w0 W (segR b T vals :: rs)) (i : Nat) (v : Value) : Own B w0 (W.setCell ⟨b, i, none⟩ v) (segR b T (vals.set i v) :: rs) := by
  have hu : Upd [b] W (W.setCell ⟨b, i, none⟩ v) := (Upd.refl _ _).setCell (.inl (by simp)) v
  obtain ⟨D, ⟨⟨cur, h1, h2, h3⟩, rfl⟩, h4, h5⟩ := h.head
  refine h.step (r' := segR b T (vals.set i v)) hu ⟨[], ⟨⟨cur.setIfInBounds i v, by rw [hp_same rfl, h1]; rfl, by simpa using h2, fun j hj => ?_⟩, rfl⟩, by simp, fun k hk => by rw [hs_set]; exact h5 k hk⟩ (fun k hk => .inl hk)
  have hj : j < vals.length := by simpa using hj
  by_cases hij : i = j
  · subst hij
    rw [Array.getElem?_setIfInBounds_self, List.getElem?_set_self hj, if_pos (by omega)]
  · rw [Array.getElem?_setIfInBounds_ne hij, List.getElem?_set_ne hij]
    exact h3 j hj

/-- A row that the caller's appends make. -/
def ownR (E sz : Nat) (v : Value) (n : Nat) (xs : List Value) : Res where
  M := blkOf v
  Q := fun w D => w.ownsRow 0 E sz v n xs ∧ D = []
  dep := fun {w w' D} ⟨h, e⟩ hk _ => by
    refine ⟨⟨h.1, ?_⟩, e⟩
    rcases h.2 with hn | ⟨g, cap, cur, rfl, hb, hg, rest⟩
    · exact .inl hn
    · exact .inr ⟨g, cap, cur, rfl, hb, by rw [hk g (.inl (by simp [blkOf]))]; exact hg, rest⟩
  lt := fun {w D} ⟨h, e⟩ k hk => by
    subst e
    rcases h.2 with ⟨rfl, _⟩ | ⟨g, cap, cur, rfl, hb, hg, rest⟩
    · simp [blkOf] at hk
    · simp [blkOf] at hk; subst hk; exact block_lt hg
  sep := fun ⟨_, e⟩ k _ hn => by rw [e] at hn; simp at hn

variable {E sz n m : Nat} {v : Value} {xs ys : List Value}
theorem ownR_owns (h : (ownR E sz v n xs).At w A) : w.ownsRow 0 E sz v n xs := let ⟨_, h, _⟩ := h; h.1

theorem owns_zero {B : Nat} (h : w.ownsRow B E sz v n xs) : w.ownsRow 0 E sz v n xs := ⟨h.1, h.2.imp id fun ⟨g, cap, cur, e, _, h⟩ => ⟨g, cap, cur, e, Nat.zero_le _, h⟩⟩

theorem Own.row0 (h : Own B w0 W rs) : Own B w0 W (ownR E sz (.slice none 0 0) 0 [] :: rs) :=
  h.new (Upd.refl [] _) ⟨[], ⟨World.ownsRow_nil _ _ _ _, rfl⟩, by simp, fun k hk => h.lt k hk⟩ (by simp [ownR, blkOf])

/-- Something was appended to it. -/
theorem Own.grow {g cap : Nat} (h : Own B w0 W (ownR E sz v n xs :: rs)) (hg : W.grownBy W' v.ownBlock) (hat : v.ownBlock = some g ∨ g = W.heap.size) (ho : W'.ownsRow 0 E sz (.slice (some ⟨g, 0, none⟩) m cap) m ys) : Own B w0 W' (ownR E sz (.slice (some ⟨g, 0, none⟩) m cap) m ys :: rs) := by
  have hown := ownR_owns h.head
  have hv : ∀ k, v.ownBlock = some k → k ∈ blkOf v := by
    intro k hk
    rcases hown.2 with ⟨rfl, _⟩ | ⟨g', cap', cur, rfl, _⟩
    · simp [Value.ownBlock] at hk
    · simp [Value.ownBlock] at hk; subst hk; simp [blkOf]
  have hu : Upd (blkOf v) W W' := (Upd.refl _ _).grown hg (fun k hk => .inl (hv k hk))
  refine h.step (r' := ownR E sz (.slice (some ⟨g, 0, none⟩) m cap) m ys) hu ⟨[], ⟨ho, rfl⟩, by simp, fun k hk => Nat.lt_of_lt_of_le (h.lt k hk) hu.size⟩ (fun k hk => ?_)
  simp [ownR, blkOf] at hk
  subst hk
  rcases hat with hat | hat
  · exact .inl (hv _ hat)
  · exact .inr (by omega)

theorem Own.row1 {W' : World} (h : Own B w0 W rs) (hu : Upd [] W W') (ho : W'.ownsRow W.heap.size E sz v n xs) : Own B w0 W' (ownR E sz v n xs :: rs) :=
  h.new hu ⟨[], ⟨owns_zero ho, rfl⟩, by simp, fun k hk => Nat.lt_of_lt_of_le (h.lt k hk) hu.size⟩ (fun k hk => by
    rcases ho.2 with ⟨rfl, _⟩ | ⟨g, cap, cur, rfl, hb, _⟩
    · simp [ownR, blkOf] at hk
    · simp [ownR, blkOf] at hk; omega)

/-- Such a row is a block whose first cells are known. -/
theorem ownR_seg {g cap : Nat} (h : (ownR E sz (.slice (some ⟨g, 0, none⟩) n cap) n xs).At w A) : (segR g E xs).At w A := by
  obtain ⟨D, ⟨h1, rfl⟩, h2, h3⟩ := h
  rcases h1.2 with ⟨h', _⟩ | ⟨g', cap', cur, h', hb, hg, hnc, hcm, hcs, htake⟩
  · simp at h'
  · simp only [Value.slice.injEq, Option.some.injEq, Addr.mk.injEq, and_true, true_and] at h'
    obtain ⟨rfl, rfl⟩ := h'
    refine ⟨[], ⟨⟨cur, hg, by rw [h1.1, hcs]; exact Nat.mul_le_mul_right _ hnc, fun j hj => ?_⟩, rfl⟩, by simp, h3⟩
    rw [← htake, List.getElem?_take_of_lt (by rw [h1.1] at hj; exact hj)]
    simp

end

/-! ### Lists of cells -/

theorem flat_set {α : Type} {cells : α → List Value} {sz : Nat} (hl : ∀ x, (cells x).length = sz) : ∀ (xs : List α) (i r : Nat) (x y : α) (v : Value), xs[i]? = some x → r < sz → cells y = (cells x).set r v → (xs.flatMap cells).set (i * sz + r) v = (xs.set i y).flatMap cells
  | [], i, r, x, y, v, h, _, _ => by simp at h
  | z :: xs, 0, r, x, y, v, h, hr, hy => by
    simp at h
    subst h
    simp only [List.flatMap_cons, List.set_cons_zero, Nat.zero_mul, Nat.zero_add]
    rw [List.set_append_left _ _ (by rw [hl]; exact hr), hy]
  | z :: xs, i + 1, r, x, y, v, h, hr, hy => by
    simp only [List.flatMap_cons, List.set_cons_succ]
    rw [List.set_append_right _ _ (by rw [hl, Nat.succ_mul]; omega), hl, show (i + 1) * sz + r - sz = i * sz + r by rw [Nat.succ_mul]; omega, flat_set hl xs i r x y v (by simpa using h) hr hy]

end Go.Heap

namespace Go.Proofs.Ytdeadekeffficaa
open Go.ChangeShapes Go.WideShapes Go.ChangeAt Go.RowKit

theorem Try.own : ownKnob Try.prog.godebug = none := by kernel_rfl
theorem Try.laidOut : laidOutB Try.prog = true := by kernel_rfl

theorem trodAll_below {H : Type} {enc : TypeId × Value → H} {P : Program} (hl : laidOutB P = true) {W W' : World} (hb : Below W.heap.size W W') :
    ∀ (ts : List TypeId) (vs : List Value) (ds : List (DataW H)) (ps : List MemPlace), (∀ t ∈ ts, P.readableRec t = true ∧ t < P.types.size) → (∀ x ∈ ps, x.block < W.heap.size) →
      DataW.TrodAll enc P W 0 (fun _ => true) true ts vs ds ps → DataW.TrodAll enc P W' 0 (fun b => decide (b < W.heap.size)) true ts vs ds ps
  | [], [], [], _, _, _, h => h
  | t :: ts, v :: vs, d :: ds, ps, hr, hp, ⟨p, q, h1, h2, he⟩ => by
    subst he
    exact ⟨p, q, Below.trod hl (hr t (by simp)).1 (hr t (by simp)).2 h1 hb (fun x hx => hp x (by simp [hx])), trodAll_below hl hb ts vs ds q (fun t ht => hr t (by simp [ht])) (fun x hx => hp x (by simp [hx])) h2, rfl⟩
  | [], [], _ :: _, _, _, _, h => h.elim
  | [], _ :: _, _, _, _, _, h => by cases ‹List (DataW H)› <;> exact h.elim
  | _ :: _, [], _, _, _, _, h => by cases ‹List (DataW H)› <;> exact h.elim
  | _ :: _, _ :: _, [], _, _, _, h => h.elim

/-- A law that returns true and writes nothing that was there. -/
theorem law_post {H : Type} {enc : TypeId × Value → H} {P : Program} {f : Func} {s : ChangeSpec} (hl : laidOutB P = true) (hv : s.vars = []) (tb : TypeId) (hres : f.resultTypes = #[tb]) (hu : P.underlying tb = some .bool)
    (hr : ∀ t ∈ f.params.toList, P.readableRec t = true ∧ t < P.types.size) {W W' : World} {args : Array Value} {ds gs : List (DataW H)} {before : List MemPlace} (hW : DataW.Whole enc P f.params.toList s.vars false W args.toList ds gs before)
    (hb : Below W.heap.size W W') (hfn : s.fn H (ds ++ gs) = { results := [.lit (.bool true)], args := ds }) : s.post enc P f false true false false W args (.bool true) W' := by
  have hW0 := hW
  obtain ⟨p, q, hA, hV, he, hz, hn⟩ := hW
  rw [hv] at hV
  obtain ⟨hgs, hq⟩ := trodVars_none hV
  subst hgs; subst hq; subst he
  rw [List.append_nil] at hz hW0
  refine ⟨ds, [], p, [], p, [], hW0, ?_, ?_, ?_, hb.frame _, fun h => by cases h⟩
  · rw [hfn, hres]
    exact trodAll_cons_mk (shut_bool hu _) trodAll_mk0
  · rw [hfn]
    exact trodAll_below hl hb _ _ _ _ hr (fun x hx => hW0.lt x hx) hA
  · rw [hv, hfn]
    rfl

end Go.Proofs.Ytdeadekeffficaa

/- A slice that came in, element by element: its cells as a list. No program. -/
namespace Go.Heap
open Go Go.ChangeShapes Go.WideShapes Go.ChangeAt Go.RowKit Go.Deep

theorem flat_length {α : Type} {cells : α → List Value} {sz : Nat} (hl : ∀ x, (cells x).length = sz) : ∀ xs : List α, (xs.flatMap cells).length = xs.length * sz
  | [] => by simp
  | x :: xs => by rw [List.flatMap_cons, List.length_append, hl, flat_length hl xs, List.length_cons, Nat.succ_mul]; omega

theorem flat_get {α : Type} {cells : α → List Value} {sz : Nat} (hl : ∀ x, (cells x).length = sz) : ∀ (xs : List α) (i r : Nat) (x : α), xs[i]? = some x → r < sz → (xs.flatMap cells)[i * sz + r]? = (cells x)[r]?
  | [], i, r, x, h, _ => by simp at h
  | y :: ys, 0, r, x, h, hr => by
    simp only [List.getElem?_cons_zero, Option.some.injEq] at h
    subst h
    rw [List.flatMap_cons, List.getElem?_append_left (by rw [hl]; omega), Nat.zero_mul, Nat.zero_add]
  | y :: ys, i + 1, r, x, h, hr => by
    rw [List.flatMap_cons, List.getElem?_append_right (by rw [hl, Nat.succ_mul]; omega), hl]
    rw [show (i + 1) * sz + r - sz = i * sz + r by rw [Nat.succ_mul]; omega]
    exact flat_get hl ys i r x (by simpa using h) hr

section
variable {H : Type} {enc : TypeId × Value → H} {W : World} {P : Program} {base : Nat} {spare : Nat → Bool} {held : Bool}

theorem slice_reads {t e : TypeId} {sz fuel : Nat} {v : Value} {x : DataW H × List MemPlace} {α : Type} {cells : α → List Value} {Q : α → Prop} (ht : P.underlying t = some (.slice e)) (hC : P.cellsOf e = sz) (hsz : 0 < sz) (hlen : ∀ a, (cells a).length = sz)
    (hel : ∀ n cs' y, cs'.length = sz → DataW.trod enc P W base spare held n e cs' = some y → ∃ a, cs' = cells a ∧ Q a) (h : DataW.trod enc P W base spare held fuel t [v] = some x) :
    ∃ xs : List α, Reads W v sz xs.length (xs.flatMap cells) ∧ ∀ a ∈ xs, Q a := by
  rcases open_slice ht h with ⟨hcs, _⟩ | ⟨a, len, cap, m, n, D, Pl, hcs, hb, hl, hm, hmm, _, hi⟩
  · simp only [List.cons.injEq, and_true] at hcs
    subst hcs
    exact ⟨[], Reads.nil _ _, by simp⟩
  · simp only [List.cons.injEq, and_true] at hcs
    subst hcs
    have hmle : len ≤ m := by rw [hmm]; split <;> omega
    have each : ∀ i, ∃ b : Option α, i < len → ∃ a', b = some a' ∧ Q a' ∧ ∀ j, j < sz → W.cell? ((a.add (i * sz)).add j) = (cells a')[j]? := by
      intro i
      by_cases hil : i < len
      · obtain ⟨cs', hc, ht'⟩ := hi i (by omega)
        rw [hC] at hc
        obtain ⟨_, hcl, hat⟩ := World.cells?_some hc
        obtain ⟨a', ha, hq⟩ := hel n cs' _ hcl ht'
        subst ha
        exact ⟨some a', fun _ => ⟨a', rfl, hq, hat⟩⟩
      · exact ⟨none, fun h => absurd h hil⟩
    obtain ⟨F, hF⟩ := Classical.axiomOfChoice each
    by_cases hz : len = 0
    · subst hz
      exact ⟨[], ⟨some a, cap, rfl, by omega, hm, by simp, (fun e => by cases e), fun h => absurd h (by simp)⟩, by simp⟩
    · obtain ⟨a0, _⟩ := hF 0 (by omega)
      have : Nonempty α := ⟨a0⟩
      let G : Nat → α := fun i => (F i).getD a0
      have hG : ∀ i, i < len → Q (G i) ∧ ∀ j, j < sz → W.cell? ((a.add (i * sz)).add j) = (cells (G i))[j]? := by
        intro i hil
        obtain ⟨a', e, q1, q2⟩ := hF i hil
        simp only [G, e, Option.getD_some]
        exact ⟨q1, q2⟩
      have hspot : a.spot = none := by
        have h0 := (hG 0 (by omega)).2 0 hsz
        rw [List.getElem?_eq_getElem (by rw [hlen]; exact hsz)] at h0
        have := World.cell?_spot h0
        simpa [Addr.add] using this
      obtain ⟨b, o, spot⟩ := a
      simp only at hspot
      subst hspot
      have hll : ((List.range len).map G).length = len := by simp
      refine ⟨(List.range len).map G, ⟨some ⟨b, o, none⟩, cap, by rw [hll], by rw [hll]; exact hl, hm, by rw [flat_length hlen], (fun e => by cases e), fun _ => ⟨b, o, rfl, ?_, fun j hj => ?_⟩⟩, ?_⟩
      · have h0 := (hG 0 (by omega)).2 0 hsz
        rw [List.getElem?_eq_getElem (by rw [hlen]; exact hsz), add_plain, add_plain] at h0
        by_cases hbl : b < W.heap.size
        · exact hbl
        · have : W.heap[b]? = none := by simp; omega
          simp [World.cell?, this] at h0
      · rw [hll] at hj
        have hd := Nat.div_add_mod j sz
        have hmod := Nat.mod_lt j hsz
        have hi' : j / sz < len := Nat.div_lt_of_lt_mul (by rw [Nat.mul_comm]; exact hj)
        have h1 := (hG (j / sz) hi').2 (j % sz) hmod
        rw [add_plain, add_plain] at h1
        have hjj : j = j / sz * sz + j % sz := by rw [Nat.mul_comm]; omega
        rw [hjj, ← Nat.add_assoc, h1, flat_get hlen _ (j / sz) (j % sz) (G (j / sz)) (by simp [hi']) hmod]
      · intro x hx
        simp only [List.mem_map, List.mem_range] at hx
        obtain ⟨i, hil, rfl⟩ := hx
        exact (hG i hil).1

end
end Go.Heap

/- Instances: what they are, in plain Lean; and how they lie in memory. -/
namespace Go.Proofs.Ytdeadekeffficaa
open Go.RowKit Go.Heap

/-! ### Plain -/

/-- A certificate. -/
structure Cp where
  view : Int
  inst : Int
  seq : Int
  rs : List Rq
  vs : Vs
deriving DecidableEq

/-- A slot of an instance. -/
structure Pl where
  sl : Sl
  told : Bool
  has : Bool
  ct : Cp
  done : Bool
  dw : Cp

structure In where
  f : Nat
  num : Int
  ahead : Int
  view : Int
  on : Bool
  l : List Pl

def noCp : Cp := ⟨0, 0, 0, [], []⟩
def emptyPl (f : Nat) : Pl := ⟨emptySl f, false, false, noCp, false, noCp⟩
def newI (f : Nat) (num ahead : Int) : In := ⟨f, num, ahead, 0, true, List.replicate 16 (emptyPl f)⟩

def In.upd (st : In) (k : Nat) (g : Pl → Pl) : In := { st with l := st.l.modify k g }
/-- The place of a number; none: there is none. -/
def idx (seq : Int) : Option Nat := if 1 ≤ seq ∧ seq ≤ 16 then some (seq.toNat - 1) else none
def plAt (st : In) (seq : Int) : Option Pl := (idx seq).bind fun k => st.l[k]?
def doneI (st : In) : Nat := (st.l.takeWhile (·.done)).length

def preB (st : In) (seq : Int) : Bool := match plAt st seq with | none => false | some p => st.on && decide (seq ≤ doneI st + st.ahead) && !p.sl.has
def slPre (rs : List Rq) (s : Sl) : Sl := if s.has then s else { s with has := true, batch := rs }
def preI (st : In) (seq : Int) (rs : List Rq) : In :=
  match idx seq with
  | none => st
  | some k => if preB st seq then st.upd k fun p => { p with sl := slPre rs p.sl } else st

def voteB (st : In) (kind seq node : Int) : Bool := match plAt st seq with | none => false | some p => st.on && canVote p.sl kind node
def voteI (st : In) (kind seq node sl : Int) (rs : List Rq) : In :=
  match idx seq with
  | none => st
  | some k => if st.on then st.upd k fun p => { p with sl := voteS p.sl kind node sl rs } else st

def prepI (st : In) (seq : Int) : Option Cp :=
  match plAt st seq with
  | none => none
  | some p => if st.on && !p.told then (preparedS st.f p.sl).map fun vs => ⟨st.view, st.num, seq, p.sl.batch, vs⟩ else none
def preparedI (st : In) (seq : Int) : In :=
  match idx seq, prepI st seq with
  | some k, some c => st.upd k fun p => { p with told := true, has := true, ct := c }
  | _, _ => st

def commI (st : In) (seq : Int) : Option Cp :=
  match plAt st seq with
  | none => none
  | some p => if p.done then none else (committedS st.f p.sl).map fun r => ⟨st.view, st.num, seq, r.1, r.2⟩
def commitsI (st : In) (seq : Int) : In :=
  match idx seq, commI st seq with
  | some k, some c => st.upd k fun p => { p with done := true, dw := c }
  | _, _ => st

def adoptB (st : In) (c : Cp) : Bool := match plAt st c.seq with | none => false | some p => !p.done && decide (c.inst = st.num)
def adoptI (st : In) (c : Cp) : In :=
  match idx c.seq with
  | none => st
  | some k => if adoptB st c then st.upd k fun p => { p with done := true, dw := c } else st

def committedI (st : In) (seq : Int) : Option Cp := match plAt st seq with | none => none | some p => if p.done then some p.dw else none
def leaveB (st : In) (v : Int) : Bool := decide (st.view < v) && decide (v ≤ 12)
def leaveI (st : In) (v : Int) : In := if leaveB st v then { st with view := v, on := false, l := st.l.map fun p => { p with sl := emptySl st.f, told := false } } else st
def instB (st : In) (n : Nat) : Bool := !st.on && decide (n ≤ 16)
def preAll : List (List Rq) → List Pl → List Pl
  | b :: bs, p :: ps => { p with sl := slPre b p.sl } :: preAll bs ps
  | _, ps => ps
def installI (st : In) (bs : List (List Rq)) : In := if instB st bs.length then { st with on := true, l := preAll bs st.l } else st
def certsI (st : In) : List Cp := (st.l.filter (·.has)).map (·.ct)
def chosenI (st : In) (seq : Int) : List Rq × Bool := match plAt st seq with | none => ([], false) | some p => (chosenS p.sl, p.sl.has)
/-- Behind the last place in which something is chosen. -/
def lastHas : List Pl → Nat
  | [] => 0
  | p :: l => if 0 < lastHas l then lastHas l + 1 else if p.sl.has then 1 else 0
def nextI (st : In) : Nat := lastHas st.l + 1
theorem lastHas_of : ∀ (l : List Pl) (k : Nat), k ≤ l.length → (∀ j (hj : j < l.length), k ≤ j → l[j].sl.has = false) → (∀ j (hj : j < l.length), k = j + 1 → l[j].sl.has = true) → lastHas l = k
  | [], k, h, _, _ => by simp at h; subst h; rfl
  | p :: l, k, h, h1, h2 => by
    match k with
    | 0 =>
      have e := lastHas_of l 0 (by simp) (fun j hj _ => h1 (j + 1) (by simpa using hj) (by omega)) (fun j _ e => by omega)
      have := h1 0 (by simp) (by omega)
      simp at this
      simp [lastHas, e, this]
    | k + 1 =>
      have e := lastHas_of l k (by simpa using h) (fun j hj hk => h1 (j + 1) (by simpa using hj) (by omega)) (fun j hj e => h2 (j + 1) (by simpa using hj) (by omega))
      by_cases hk : k = 0
      · subst hk
        have := h2 0 (by simp) rfl
        simp at this
        simp [lastHas, e, this]
      · simp [lastHas, e]; omega
def usedP (r : Rq) (p : Pl) : Bool := (p.sl.has && decide (r ∈ chosenS p.sl)) || (p.done && decide (r ∈ p.dw.rs))
def usedI (st : In) (r : Rq) : Bool := st.l.any (usedP r)

theorem idx_lt {seq : Int} {k : Nat} (h : idx seq = some k) : k < 16 ∧ seq = (k : Int) + 1 := by
  unfold idx at h
  split at h
  · simp only [Option.some.injEq] at h; omega
  · cases h
theorem idx_of {seq : Int} (h1 : 1 ≤ seq) (h2 : seq ≤ 16) : idx seq = some (seq.toNat - 1) := by unfold idx; rw [if_pos ⟨h1, h2⟩]
theorem idx_none {seq : Int} (h : idx seq = none) : seq < 1 ∨ 16 < seq := by
  unfold idx at h
  split at h
  · cases h
  · omega

/-! ### In memory -/

structure Ct where
  view : Int
  inst : Int
  seq : Int
  vb : Value
  vv : Value
  rs : List Rq
  vs : Vs
def Ct.cp (c : Ct) : Cp := ⟨c.view, c.inst, c.seq, c.rs, c.vs⟩
def ctCells (c : Ct) : List Value := [.int .i64 c.view, .int .i64 c.inst, .int .i64 c.seq, c.vb, c.vv]
abbrev ctAgg (c : Ct) : Value := .agg #[.int .i64 c.view, .int .i64 c.inst, .int .i64 c.seq, c.vb, c.vv]

structure Pm where
  lc : Loc
  sl : Sl
  told : Bool
  has : Bool
  ct : Ct
  done : Bool
  dw : Ct
def Pm.pl (p : Pm) : Pl := ⟨p.sl, p.told, p.has, p.ct.cp, p.done, p.dw.cp⟩
def pmCells (p : Pm) : List Value := [p.lc.ptr, .bool p.told, .bool p.has, .int .i64 p.ct.view, .int .i64 p.ct.inst, .int .i64 p.ct.seq, p.ct.vb, p.ct.vv, .bool p.done, .int .i64 p.dw.view, .int .i64 p.dw.inst, .int .i64 p.dw.seq, p.dw.vb, p.dw.vv]
theorem pmCells_len (p : Pm) : (pmCells p).length = 14 := rfl

structure Ins where
  i : Nat
  b : Nat
  cap : Nat
  f : Nat
  num : Int
  ahead : Int
  view : Int
  on : Bool
  l : List Pm
def Ins.st (x : Ins) : In := ⟨x.f, x.num, x.ahead, x.view, x.on, x.l.map Pm.pl⟩
abbrev Ins.ptr (x : Ins) : Value := .pointer (some ⟨x.i, 0, none⟩)
abbrev insO (f : Nat) (num ahead view : Int) (on : Bool) (v : Value) : Obj := .cells #[.int .i64 f, .int .i64 num, .int .i64 ahead, .int .i64 view, .bool on, v] 120 (0, 0)
abbrev Ins.o (x : Ins) : Obj := insO x.f x.num x.ahead x.view x.on (.slice (some ⟨x.b, 0, none⟩) 16 x.cap)

def VtsIn (w : World) (v : Value) (l : Vs) (D : List Nat) : Prop := ReadsIn w v 2 l.length (vsCells l) D
structure CtIn (w : World) (c : Ct) (D : List Nat) : Prop where
  b : BatIn w c.vb c.rs D
  bn : c.rs.length ≤ 100000
  v : VtsIn w c.vv c.vs D
  vn : c.vs.length ≤ 100000

theorem CtIn.dep {w w' : World} {c : Ct} {D : List Nat} (h : CtIn w c D) (hk : ∀ k ∈ D, w'.heap[k]? = w.heap[k]?) (hs : w.heap.size ≤ w'.heap.size) : CtIn w' c D := ⟨ReadsIn.dep h.b hk hs, h.bn, ReadsIn.dep h.v hk hs, h.vn⟩
theorem CtIn.mono {w : World} {c : Ct} {D D' : List Nat} (h : CtIn w c D) (hs : ∀ k ∈ D, k ∈ D') : CtIn w c D' := ⟨ReadsIn.mono h.b hs, h.bn, ReadsIn.mono h.v hs, h.vn⟩

structure InsOk (x : Ins) : Prop where
  n : x.l.length = 16
  f1 : 1 ≤ x.f
  f2 : x.f ≤ 4
  lf : ∀ p ∈ x.l, p.lc.f = x.f
  c1 : 16 ≤ x.cap
  a1 : 1 ≤ x.ahead
  a2 : x.ahead ≤ 16
  vw : 0 ≤ x.view ∧ x.view ≤ 12

/-- What an instance's certificates lead to; and its measures. -/
def certsR (x : Ins) : Res := imm (fun w D => InsOk x ∧ ∀ p ∈ x.l, CtIn w p.ct D ∧ CtIn w p.dw D) (fun h hk hs => ⟨h.1, fun p hp => ⟨(h.2 p hp).1.dep hk hs, (h.2 p hp).2.dep hk hs⟩⟩)
def pmR (p : Pm) : Res := slotR p.lc p.sl
def insHd (x : Ins) : List Res := [blk x.i x.o, segR x.b 122 (x.l.flatMap pmCells), certsR x]
def instR (x : Ins) : Res := joinR (insHd x ++ x.l.map pmR)

section
variable {B : Nat} {w0 W W' : World} {ss : List Res} {x : Ins}

/-- An instance that lies open. -/
abbrev OwnI (B : Nat) (w0 W : World) (x : Ins) (ss : List Res) : Prop := Own B w0 W (insHd x ++ (x.l.map pmR ++ ss))

theorem own_open (h : Own B w0 W (instR x :: ss)) : OwnI B w0 W x ss := by
  have := Own.open h
  rwa [List.append_assoc] at this
theorem own_shut (h : OwnI B w0 W x ss) : Own B w0 W (instR x :: ss) := by
  have h2 : Own B w0 W ((insHd x ++ x.l.map pmR) ++ ss) := by rwa [List.append_assoc]
  exact h2.shut

theorem oi_ok (h : OwnI B w0 W x ss) : InsOk x := by
  obtain ⟨D, ⟨⟨h1, _⟩, _⟩, _, _⟩ := (h.all (certsR x) (by simp [insHd])).1
  exact h1

theorem own_ok (h : Own B w0 W (instR x :: ss)) : InsOk x := oi_ok (own_open h)

theorem oi_blk (h : OwnI B w0 W x ss) : W.heap[x.i]? = some x.o := blk_out (h.all (blk x.i x.o) (by simp [insHd])).1
theorem oi_cells (h : OwnI B w0 W x ss) : W.cell? ⟨x.i, 0, none⟩ = some (.int .i64 x.f) ∧ W.cell? ⟨x.i, 1, none⟩ = some (.int .i64 x.num) ∧ W.cell? ⟨x.i, 2, none⟩ = some (.int .i64 x.ahead) ∧ W.cell? ⟨x.i, 3, none⟩ = some (.int .i64 x.view) ∧
    W.cell? ⟨x.i, 4, none⟩ = some (.bool x.on) ∧ W.cell? ⟨x.i, 5, none⟩ = some (.slice (some ⟨x.b, 0, none⟩) 16 x.cap) ∧ x.i < W.heap.size ∧ x.b < W.heap.size := by
  have hb := oi_blk h
  exact ⟨by rw [block_cell hb]; rfl, by rw [block_cell hb]; rfl, by rw [block_cell hb]; rfl, by rw [block_cell hb]; rfl, by rw [block_cell hb]; rfl, by rw [block_cell hb]; rfl, block_lt hb,
    (segR_at (h.all (segR x.b 122 (x.l.flatMap pmCells)) (by simp [insHd])).1).1⟩

theorem flat14 (l : List Pm) (k r : Nat) (hk : k < l.length) (hr : r < 14) : (l.flatMap pmCells)[k * 14 + r]? = (pmCells l[k])[r]? ∧ k * 14 + r < (l.flatMap pmCells).length := by
  have hl : (l.flatMap pmCells).length = l.length * 14 := flat_length (cells := pmCells) (sz := 14) (fun _ => rfl) l
  exact ⟨flat_get (cells := pmCells) (sz := 14) (fun _ => rfl) l k r l[k] (by simp) hr, by rw [hl]; omega⟩

theorem oi_at (h : OwnI B w0 W x ss) (k : Nat) (hk : k < x.l.length) (r : Nat) (hr : r < 14) : W.cell? ⟨x.b, k * 14 + r, none⟩ = (pmCells x.l[k])[r]? := by
  obtain ⟨-, h2, -⟩ := segR_at (h.all (segR x.b 122 (x.l.flatMap pmCells)) (by simp [insHd])).1
  obtain ⟨e1, e2⟩ := flat14 x.l k r hk hr
  rw [h2 _ e2, e1]

theorem oi_fz (h : OwnI B w0 W x ss) : (∀ o, W.frozen? ⟨x.b, o, none⟩ = false) ∧ ∀ o, W.frozen? ⟨x.i, o, none⟩ = false :=
  ⟨(segR_at (h.all (segR x.b 122 (x.l.flatMap pmCells)) (by simp [insHd])).1).2.2, fun o => block_frozen (oi_blk h) o⟩

/-- The k-th slot comes to the head. -/
theorem oi_pick (h : OwnI B w0 W x ss) (k : Nat) (hk : k < x.l.length) : Own B w0 W (pmR x.l[k] :: (insHd x ++ ((x.l.eraseIdx k).map pmR ++ ss))) := Own.pick h k hk

/-- The k-th slot is another one, or in another state. -/
theorem oi_unpick (k : Nat) (hk : k < x.l.length) (p : Pm) (h : Own B w0 W (pmR p :: (insHd x ++ ((x.l.eraseIdx k).map pmR ++ ss)))) (hc : pmCells p = pmCells x.l[k]) (hct : p.ct = x.l[k].ct ∧ p.dw = x.l[k].dw) (hf : p.lc.f = x.l[k].lc.f) :
    OwnI B w0 W { x with l := x.l.set k p } ss := by
  have h1 := Own.unpick (f := pmR) (x := p) k hk h
  have hcells : (x.l.set k p).flatMap pmCells = x.l.flatMap pmCells := by
    apply List.ext_getElem?
    intro j
    have hl : (x.l.flatMap pmCells).length = x.l.length * 14 := flat_length (cells := pmCells) (sz := 14) (fun _ => rfl) x.l
    have hl' : ((x.l.set k p).flatMap pmCells).length = x.l.length * 14 := by rw [flat_length (cells := pmCells) (sz := 14) (fun _ => rfl)]; simp
    by_cases hj : j < x.l.length * 14
    · have h0 : j / 14 < x.l.length := by omega
      have e1 := (flat14 x.l (j / 14) (j % 14) h0 (by omega)).1
      have e2 := (flat14 (x.l.set k p) (j / 14) (j % 14) (by simpa using h0) (by omega)).1
      rw [show j / 14 * 14 + j % 14 = j by omega] at e1 e2
      rw [e1, e2]
      by_cases hjk : k = j / 14
      · subst hjk
        rw [List.getElem_set_self, hc]
      · rw [List.getElem_set_ne hjk]
    · rw [List.getElem?_eq_none (by omega), List.getElem?_eq_none (by omega)]
  have hcr : Own B w0 W (insHd { x with l := x.l.set k p } ++ ((x.l.set k p).map pmR ++ ss)) := by
    have h2 : Own B w0 W (certsR x :: blk x.i x.o :: segR x.b 122 (x.l.flatMap pmCells) :: ((x.l.set k p).map pmR ++ ss)) := h1.perm (List.perm_middle (l₁ := [_, _]))
    have h3 := h2.alter (r' := certsR { x with l := x.l.set k p }) (by
      obtain ⟨D, ⟨⟨q1, q2⟩, q3⟩, q4, q5⟩ := h2.head
      refine ⟨D, ⟨⟨⟨by simpa using q1.n, q1.f1, q1.f2, fun p' hp' => ?_, q1.c1, q1.a1, q1.a2, q1.vw⟩, fun p' hp' => ?_⟩, q3⟩, q4, q5⟩
      · rcases List.mem_or_eq_of_mem_set hp' with hp' | rfl
        · exact q1.lf p' hp'
        · rw [hf]; exact q1.lf _ (by simp)
      · rcases List.mem_or_eq_of_mem_set hp' with hp' | rfl
        · exact q2 p' hp'
        · rw [hct.1, hct.2]; exact q2 _ (by simp)) (by simp [certsR, imm])
    have h4 : Own B w0 W ([blk x.i x.o, segR x.b 122 (x.l.flatMap pmCells), certsR { x with l := x.l.set k p }] ++ ((x.l.set k p).map pmR ++ ss)) := h3.perm (List.perm_middle (l₁ := [_, _])).symm
    unfold insHd
    rw [hcells]
    exact h4
  exact hcr

end
end Go.Proofs.Ytdeadekeffficaa

/- inst: at, Done, View, Installed. -/
namespace Go.Proofs.Ytdeadekeffficaa
open Go.RowKit Go.Heap

set_option maxHeartbeats 400000 in
theorem at_no (i b cap : Nat) (seq : Int) (w : World) (h : seq < 1 ∨ 16 < seq) (h5 : w.cell? ⟨i, 5, none⟩ = some (.slice (some ⟨b, 0, none⟩) 16 cap)) :
    Calls Try.prog 65 #[.pointer (some ⟨i, 0, none⟩), .int .i64 seq] w fun e w' => e = .returned (.pointer none) ∧ w = w' := by
  by_cases h1 : seq < 1
  · have hb : decide (seq < 1) = true := by simp; omega
    go_enter Try.func65, Try.ntmps65
    go_wp2_with fail
    go_ret
    exact ⟨rfl, rfl⟩
  · have hb : decide (seq < 1) = false := by simp; omega
    have h2 : 16 < seq := by omega
    go_enter Try.func65, Try.ntmps65
    go_wp2_with fail
    go_ret
    exact ⟨rfl, rfl⟩

set_option maxHeartbeats 400000 in
theorem at_yes (i b cap : Nat) (seq : Int) (w : World) (h1 : 1 ≤ seq) (h2 : seq ≤ 16) (h5 : w.cell? ⟨i, 5, none⟩ = some (.slice (some ⟨b, 0, none⟩) 16 cap)) :
    Calls Try.prog 65 #[.pointer (some ⟨i, 0, none⟩), .int .i64 seq] w fun e w' => e = .returned (.pointer (some ⟨b, (seq.toNat - 1) * 14, none⟩)) ∧ w = w' := by
  have hb : decide (seq < 1) = false := by simp; omega
  have hb2 : decide (16 < seq) = false := by simp; omega
  go_enter Try.func65, Try.ntmps65
  go_wp2_with fail
  go_ret
  exact ⟨rfl, rfl⟩

theorem take_while (l : List Pl) (n : Nat) (h : ∀ j (hj : j < l.length), j < n → l[j].done = true) (hn : n ≤ l.length) (he : ∀ (hj : n < l.length), l[n].done = false) : (l.takeWhile (·.done)).length = n := by
  induction l generalizing n with
  | nil => simp at hn; simp [hn]
  | cons p l ih =>
    match n with
    | 0 =>
      have := he (by simp)
      simp at this
      simp [List.takeWhile, this]
    | n + 1 =>
      have hp := h 0 (by simp) (by omega)
      simp at hp
      rw [List.takeWhile_cons, if_pos hp, List.length_cons, ih n (fun j hj hjn => by have := h (j + 1) (by simp; omega) (by omega); simpa using this) (by simpa using hn) (fun hj => by have := he (by simp; omega); simpa using this)]

section
variable {B : Nat} {w0 W W' : World} {ss : List Res} {x : Ins}

theorem oi_drew (h : OwnI B w0 W x ss) : OwnI B w0 W.drew x ss := Own.drew h

theorem oi_done (h : OwnI B w0 W x ss) (k : Nat) (hk : k < x.l.length) : W.cell? ⟨x.b, k * 14 + 8, none⟩ = some (.bool x.l[k].done) := oi_at h k hk 8 (by omega)
theorem oi_told (h : OwnI B w0 W x ss) (k : Nat) (hk : k < x.l.length) : W.cell? ⟨x.b, k * 14 + 1, none⟩ = some (.bool x.l[k].told) := oi_at h k hk 1 (by omega)
theorem oi_has (h : OwnI B w0 W x ss) (k : Nat) (hk : k < x.l.length) : W.cell? ⟨x.b, k * 14 + 2, none⟩ = some (.bool x.l[k].has) := oi_at h k hk 2 (by omega)
theorem oi_ptr (h : OwnI B w0 W x ss) (k : Nat) (hk : k < x.l.length) : W.cell? ⟨x.b, k * 14, none⟩ = some x.l[k].lc.ptr := oi_at h k hk 0 (by omega)

def DoneP (w : World) (n : Nat) (e : Ending) (w' : World) : Prop := e = .returned (.int .i64 n) ∧ w = w'

set_option maxHeartbeats 400000 in
theorem done_open (h : OwnI B w0 W x ss) : Calls Try.prog 37 #[x.ptr] W (DoneP W (doneI x.st)) := by
  obtain ⟨c0, c1, c2, c3, c4, c5, l1, l2⟩ := oi_cells h
  have hn := (oi_ok h).n
  have HN := Lib.hid hn
  have HD := Lib.hid (fun n h1 h2 h3 => take_while (x.l.map Pm.pl) n h1 h2 h3)
  have H := Lib.hid h
  clear h c0 c1 c2 c3 c4 hn
  go_enter Try.func37, Try.ntmps37
  go_wp2_with fail
  go_loop [3] (fun n => ∃ k : Nat, k ≤ 16 ∧ n = .int .i64 k ∧ Hid (∀ j (hj : j < x.l.length), j < k → x.l[j].done = true)) (fun n => 16 - (intOf n).toNat)
  case atStart => exact ⟨0, by omega, rfl, Lib.hid (by intro j _ hj; omega)⟩
  case round =>
    obtain ⟨k, hk, rfl, HA⟩ := hrel
    by_cases hlt : k < 16
    · have hkI : (k : Int) < 16 := by omega
      have hkl : k < x.l.length := by rw [HN.out]; exact hlt
      have cd := oi_done H.out k hkl
      cases hd : x.l[k].done
      · rw [hd] at cd
        have HDK := Lib.hid hd
        clear hd
        go_wp2_with fail
        go_ret
        refine ⟨ret_int ?_, rfl⟩
        rw [show doneI x.st = k from HD.out k (fun j hj hjk => by simpa [Pm.pl] using HA.out j (by simpa using hj) hjk) (by simp; omega) (fun hj => by simpa [Pm.pl] using HDK.out)]
      · rw [hd] at cd
        have HDK := Lib.hid hd
        clear hd
        go_wp2_with fail
        go_round
        case rel =>
          refine ⟨k + 1, by omega, by go_num, Lib.hid (fun j hj hjk => ?_)⟩
          by_cases e : j = k
          · subst e; exact HDK.out
          · exact HA.out j hj (by omega)
        case measure => simp [intOf]; omega
    · have hk16 : k = 16 := by omega
      subst hk16
      go_wp2_with fail
      go_ret
      refine ⟨ret_int ?_, rfl⟩
      rw [show doneI x.st = 16 from HD.out 16 (fun j hj hjk => by simpa [Pm.pl] using HA.out j (by simpa using hj) hjk) (by simp [HN.out]) (fun hj => by simp [HN.out] at hj)]
      rfl

theorem ins_done (h : Own B w0 W (instR x :: ss)) {i : Nat} (hi : x.i = i) : Calls Try.prog 37 #[.pointer (some ⟨i, 0, none⟩)] W (DoneP W (doneI x.st)) := by
  subst hi; exact done_open (own_open h)

set_option maxHeartbeats 400000 in
theorem ins_view (h : Own B w0 W (instR x :: ss)) {i : Nat} (hi : x.i = i) : Calls Try.prog 50 #[.pointer (some ⟨i, 0, none⟩)] W fun e w' => e = .returned (.int .i64 x.view) ∧ W = w' := by
  subst hi
  obtain ⟨c0, c1, c2, c3, c4, c5, l1, l2⟩ := oi_cells (own_open h)
  clear h c0 c1 c2 c4 c5
  go_enter Try.func50, Try.ntmps50
  go_wp2_with fail
  go_ret
  exact ⟨rfl, rfl⟩

set_option maxHeartbeats 400000 in
theorem ins_installed (h : Own B w0 W (instR x :: ss)) {i : Nat} (hi : x.i = i) : Calls Try.prog 51 #[.pointer (some ⟨i, 0, none⟩)] W fun e w' => e = .returned (.bool x.on) ∧ W = w' := by
  subst hi
  obtain ⟨c0, c1, c2, c3, c4, c5, l1, l2⟩ := oi_cells (own_open h)
  clear h c0 c1 c2 c3 c5
  go_enter Try.func51, Try.ntmps51
  go_wp2_with fail
  go_ret
  exact ⟨rfl, rfl⟩

end
end Go.Proofs.Ytdeadekeffficaa

/- inst: Chosen, Vote, Pre. -/
namespace Go.Proofs.Ytdeadekeffficaa
open Go.RowKit Go.Heap

section
variable {B : Nat} {w0 W W' : World} {ss : List Res} {x : Ins}

theorem plAt_some {seq : Int} {k : Nat} (h : InsOk x) (hk : idx seq = some k) : ∃ hk' : k < x.l.length, plAt x.st seq = some x.l[k].pl := by
  have hk' : k < x.l.length := by rw [h.n]; exact (idx_lt hk).1
  exact ⟨hk', by simp [plAt, hk, Ins.st, hk']⟩
theorem plAt_none {seq : Int} {st : In} (hk : idx seq = none) : plAt st seq = none := by simp [plAt, hk]

abbrev Ins.sl (x : Ins) (k : Nat) (p : Pm) : Ins := { x with l := x.l.set k p }
theorem st_set (x : Ins) (k : Nat) (hk : k < x.l.length) (p : Pm) (g : Pl → Pl) (hp : p.pl = g x.l[k].pl) : (x.sl k p).st = x.st.upd k g := by
  simp only [Ins.st, In.upd, In.mk.injEq, true_and]
  apply List.ext_getElem?
  intro j
  rw [List.map_set, List.getElem?_modify, List.getElem?_set]
  by_cases e : k = j
  · subst e
    simp [hk, hp]
  · simp [e]

def ChosenP (W : World) (r : List Rq × Bool) (e : Ending) (w' : World) : Prop := ∃ u, e = .returned (.tuple #[u, .bool r.2]) ∧ Upd [] W w' ∧ Bat w' u r.1 ∧ ∀ k ∈ blkOf u, W.heap.size ≤ k

set_option maxHeartbeats 400000 in
theorem ins_chosen (h : Own B w0 W (instR x :: ss)) {i : Nat} (hi : x.i = i) (seq : Int) : Calls Try.prog 81 #[.pointer (some ⟨i, 0, none⟩), .int .i64 seq] W (ChosenP W (chosenI x.st seq)) := by
  subst hi
  have ho := own_open h
  obtain ⟨-, -, -, -, -, c5, l1, l2⟩ := oi_cells ho
  cases hk : idx seq with
  | none =>
    have hs := idx_none hk
    have HE := Lib.hid (show chosenI x.st seq = ([], false) by simp [chosenI, plAt_none hk])
    have HA := Lib.hid (at_no x.i x.b x.cap seq W hs c5)
    clear ho h hk hs c5
    go_enter Try.func81, Try.ntmps81
    go_wp2_with fail
    refine HA.out.mono ?_
    rintro e w' ⟨rfl, rfl⟩
    go_wp2_with fail
    go_ret2
    rw [HE.out]
    exact ⟨.slice none 0 0, rfl, Upd.refl _ _, Reads.nil _ _, by simp [blkOf]⟩
  | some k =>
    obtain ⟨hl, hp⟩ := plAt_some (oi_ok ho) hk
    have HE := Lib.hid (show chosenI x.st seq = (chosenS x.l[k].sl, x.l[k].sl.has) by simp [chosenI, hp, Pm.pl])
    obtain ⟨i1, i2⟩ := idx_lt hk
    have HA := Lib.hid (at_yes x.i x.b x.cap seq W (by omega) (by omega) c5)
    have hks : seq.toNat - 1 = k := by omega
    rw [hks] at HA
    have cp := oi_ptr ho k hl
    have HC := Lib.hid (own_chosen (oi_pick ho k hl))
    clear ho h hk c5 hp i2 hks
    go_enter Try.func81, Try.ntmps81
    go_wp2_with fail
    refine HA.out.mono ?_
    rintro e w' ⟨rfl, rfl⟩
    go_wp2_with fail
    refine HC.out.mono ?_
    rintro e w' ⟨u, rfl, hu, hb, hn⟩
    have HU := Lib.hid hu
    have HB := Lib.hid hb
    have HN := Lib.hid hn
    clear hu hb hn
    go_wp2_with fail
    go_ret2
    rw [HE.out]
    exact ⟨u, rfl, HU.out, HB.out, HN.out⟩

/-- What a call leaves: an instance that is so. -/
def InsP (B : Nat) (w0 _W : World) (i : Nat) (st : In) (ss : List Res) (r : Value) (e : Ending) (w' : World) : Prop := e = .returned r ∧ ∃ x' : Ins, x'.i = i ∧ x'.st = st ∧ Own B w0 w' (instR x' :: ss)

theorem insP_same (h : Own B w0 W (instR x :: ss)) {st : In} (hst : st = x.st) {r : Value} : InsP B w0 W x.i st ss r (.returned r) W := ⟨rfl, x, rfl, hst.symm, h⟩

theorem vote_off {seq : Int} {st : In} (hk : idx seq = none) (kind node sl : Int) (l : List Rq) : voteB st kind seq node = false ∧ voteI st kind seq node sl l = st := by
  simp [voteB, voteI, plAt_none hk, hk]

set_option maxHeartbeats 400000 in
theorem ins_vote (h : Own B w0 W (instR x :: ss)) {i : Nat} (hi : x.i = i) (kind seq node sl : Int) (v : Value) (l : List Rq) (hb : Bat W v l) (hn : l.length ≤ 100000) :
    Calls Try.prog 35 #[.pointer (some ⟨i, 0, none⟩), .int .i64 kind, .int .i64 seq, .int .i64 node, .int .i64 sl, v] W (InsP B w0 W i (voteI x.st kind seq node sl l) ss (.bool (voteB x.st kind seq node))) := by
  subst hi
  have ho := own_open h
  obtain ⟨-, -, -, -, c4, c5, l1, l2⟩ := oi_cells ho
  cases hk : idx seq with
  | none =>
    have hs := idx_none hk
    have HE := Lib.hid (vote_off (st := x.st) hk kind node sl l)
    have HA := Lib.hid (at_no x.i x.b x.cap seq W hs c5)
    have H := Lib.hid h
    clear ho h hk hs c4 c5 hb
    go_enter Try.func35, Try.ntmps35
    go_wp2_with fail
    refine HA.out.mono ?_
    rintro e w' ⟨rfl, rfl⟩
    go_wp2_with fail
    go_ret
    rw [HE.out.1]
    exact insP_same H.out HE.out.2
  | some k =>
    obtain ⟨hl, hp⟩ := plAt_some (oi_ok ho) hk
    obtain ⟨i1, i2⟩ := idx_lt hk
    have HA := Lib.hid (at_yes x.i x.b x.cap seq W (by omega) (by omega) c5)
    have hks : seq.toNat - 1 = k := by omega
    rw [hks] at HA
    have cp := oi_ptr ho k hl
    by_cases hon : x.on = true
    · rw [hon] at c4
      have HB := Lib.hid (show voteB x.st kind seq node = canVote x.l[k].sl kind node by simp only [voteB, hp, Pm.pl]; simp [Ins.st, hon])
      have HI := Lib.hid (show voteI x.st kind seq node sl l = x.st.upd k fun p => { p with sl := voteS p.sl kind node sl l } by simp only [voteI, hk]; simp [Ins.st, hon])
      have HC := Lib.hid (own_vote (oi_pick ho k hl) kind node sl v l hb hn)
      clear ho h hk c5 hp i2 hks hon hb
      go_enter Try.func35, Try.ntmps35
      go_wp2_with fail
      refine HA.out.mono ?_
      rintro e w' ⟨rfl, rfl⟩
      go_wp2_with fail
      refine HC.out.mono ?_
      rintro e w' ⟨rfl, -, h2⟩
      have H2 := Lib.hid h2
      clear h2
      go_wp2_with fail
      go_ret
      rw [HB.out, HI.out]
      exact ⟨rfl, x.sl k { x.l[k] with sl := voteS x.l[k].sl kind node sl l }, rfl, st_set x k hl _ _ rfl, own_shut (oi_unpick k hl _ H2.out rfl ⟨rfl, rfl⟩ rfl)⟩
    · have hon' : x.on = false := by simpa using hon
      rw [hon'] at c4
      have HB := Lib.hid (show voteB x.st kind seq node = false by simp only [voteB, hp]; simp [Ins.st, hon'])
      have HI := Lib.hid (show voteI x.st kind seq node sl l = x.st by simp only [voteI, hk]; simp [Ins.st, hon'])
      have H := Lib.hid h
      clear ho h hk c5 hp i2 hks hon hb hon'
      go_enter Try.func35, Try.ntmps35
      go_wp2_with fail
      refine HA.out.mono ?_
      rintro e w' ⟨rfl, rfl⟩
      go_wp2_with fail
      go_ret
      rw [HB.out]
      exact insP_same H.out HI.out

end
end Go.Proofs.Ytdeadekeffficaa
