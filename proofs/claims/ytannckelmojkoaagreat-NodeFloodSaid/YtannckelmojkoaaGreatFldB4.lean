/- Parts of the proof, one behind the other. -/
import Derived.Test.YtannckelmojkoaaGreatFldB3
import Derived.Deep.RegionHeld3

/- The slot in memory, and what its functions do to it. -/
namespace Go.Proofs.YtannckelmojkoaaGreat
open Go.RowKit Go.Heap

/-- A slot, as the document has it. -/
structure Sl where
  has : Bool
  batch : List Rq
  ps : List Vt
  cs : List Vt

def noVt : Vt := ⟨false, 0, []⟩

/-- The slot s in memory: its own block s, its votes in blocks bp and bc, its batches in blocks of D. -/
structure SlotAt (w : World) (s bp bc cp cq : Nat) (f : Nat) (st : Sl) (D : List Nat) : Prop where
  f1 : 1 ≤ f
  f2 : f ≤ 4
  own : ∃ v, w.heap[s]? = some (.cells #[.int .i64 f, .bool st.has, v, .slice (some ⟨bp, 0, none⟩) (3 * f + 1) cp, .slice (some ⟨bc, 0, none⟩) (3 * f + 1) cq] 307 (0, 0)) ∧ Bat w v st.batch ∧ ∀ k ∈ blkOf v, k ∈ D
  ps : VotesAt w bp st.ps D
  cs : VotesAt w bc st.cs D
  pl : st.ps.length = 3 * f + 1
  cl : st.cs.length = 3 * f + 1
  sp : s ≠ bp
  sc : s ≠ bc
  pc : bp ≠ bc
  Ds : s ∉ D
  Dp : bp ∉ D
  Dc : bc ∉ D
  Dw : ∀ k ∈ D, k < w.heap.size
  small : st.batch.length ≤ 100000 ∧ (∀ t ∈ st.ps, t.batch.length ≤ 100000) ∧ ∀ t ∈ st.cs, t.batch.length ≤ 100000

theorem SlotAt.upd {w w' : World} {M : List Nat} {s bp bc cp cq f : Nat} {st : Sl} {D : List Nat} (h : SlotAt w s bp bc cp cq f st D) (hu : Upd M w w') (h1 : s ∉ M) (h2 : bp ∉ M) (h3 : bc ∉ M) (hD : ∀ k ∈ D, k ∉ M) : SlotAt w' s bp bc cp cq f st D := by
  obtain ⟨v, a1, a2, a3⟩ := h.own
  exact { h with
    own := ⟨v, by rw [hu.block s (block_lt a1) h1]; exact a1, a2.upd hu (fun k hk => hD k (a3 k hk)), a3⟩
    ps := h.ps.upd hu h2 hD
    cs := h.cs.upd hu h3 hD
    Dw := fun k hk => Nat.lt_of_lt_of_le (h.Dw k hk) hu.size }

/-- The cells that the walk wants. -/
theorem SlotAt.cells {w : World} {s bp bc cp cq f : Nat} {st : Sl} {D : List Nat} (h : SlotAt w s bp bc cp cq f st D) :
    ∃ ao cap, s < w.heap.size ∧ bp < w.heap.size ∧ bc < w.heap.size ∧ w.cell? ⟨s, 0, none⟩ = some (.int .i64 f) ∧ w.cell? ⟨s, 1, none⟩ = some (.bool st.has) ∧ w.cell? ⟨s, 2, none⟩ = some (.slice ao st.batch.length cap) ∧
      w.cell? ⟨s, 3, none⟩ = some (.slice (some ⟨bp, 0, none⟩) (3 * f + 1) cp) ∧ w.cell? ⟨s, 4, none⟩ = some (.slice (some ⟨bc, 0, none⟩) (3 * f + 1) cq) ∧ (∀ o, w.frozen? ⟨s, o, none⟩ = false) ∧
      Bat w (.slice ao st.batch.length cap) st.batch ∧ (∀ k ∈ blkOf (.slice ao st.batch.length cap), k ∈ D) ∧
      w.heap[s]? = some (.cells #[.int .i64 f, .bool st.has, .slice ao st.batch.length cap, .slice (some ⟨bp, 0, none⟩) (3 * f + 1) cp, .slice (some ⟨bc, 0, none⟩) (3 * f + 1) cq] 307 (0, 0)) := by
  obtain ⟨v, a1, a2, a3⟩ := h.own
  obtain ⟨ao, cap, rfl⟩ := bat_form a2
  obtain ⟨arr, p1, _, _⟩ := h.ps
  obtain ⟨arr', c1, _, _⟩ := h.cs
  exact ⟨ao, cap, block_lt a1, block_lt p1, block_lt c1, by rw [block_cell a1]; rfl, by rw [block_cell a1]; rfl, by rw [block_cell a1]; rfl, by rw [block_cell a1]; rfl, by rw [block_cell a1]; rfl, block_frozen a1, a2, a3, a1⟩

/-! ### New, Reset -/

def zv (n : Nat) : Array Value := madeCells #[.bool false, .int .i64 0, .slice none 0 0] (n * 3)

theorem zv_size (n : Nat) : (zv n).size = n * 3 := by simp [zv, size_madeCells]

theorem zv_votes {w : World} {b n : Nat} {D : List Nat} (h : w.heap[b]? = some (.cells (zv n) 371 (0, 0))) : VotesAt w b (List.replicate n noVt) D := by
  refine ⟨zv n, h, by rw [zv_size, List.length_replicate]; exact Nat.le_refl _, fun i t hi => ?_⟩
  have hin : i < n := by simpa using (List.getElem?_eq_some_iff.1 hi).1
  rw [List.getElem?_replicate, if_pos hin] at hi
  cases hi
  have key : ∀ j, j < n * 3 → (zv n)[j]? = some ((#[.bool false, .int .i64 0, .slice none 0 0] : Array Value)[j % 3]!) := by
    intro j hj
    simp [zv, madeCells, hj]
  refine ⟨.slice none 0 0, ?_, ?_, ?_, Reads.nil _ _, by simp [blkOf]⟩
  · rw [key _ (by omega), show i * 3 % 3 = 0 by omega]; rfl
  · rw [key _ (by omega), show (i * 3 + 1) % 3 = 1 by omega]; rfl
  · rw [key _ (by omega), show (i * 3 + 2) % 3 = 2 by omega]; rfl

theorem Tryz.infoSv : (Tryz.prog.info? 371).map (fun i => (i.zero, i.size, i.bytes)) = some (some (.agg #[.bool false, .int .i64 0, .slice none 0 0]), 3, 40) := by kernel_rfl

theorem run_make_votes (f : Nat) (h2 : f ≤ 4) (wx : World) : (Instr.makeSlice 305 (.int .i64 (3 * (f : Int) + 1)) (.int .i64 (3 * (f : Int) + 1))).run Tryz.prog wx = .ok (.slice (some ⟨wx.heap.size, 0, none⟩) (3 * f + 1) (3 * f + 1)) (wx.alloc (.cells (zv (3 * f + 1)) 371)) := by
  obtain ⟨i0, hi, hz0, hz1, hz2⟩ := info_parts Tryz.infoSv
  have := run_make (P := Tryz.prog) wx 305 371 i0 _ Tryz.underlying305 hi hz0 .i64 .i64 (3 * (f : Int) + 1) (3 * (f : Int) + 1) (by omega) (by omega) (by rw [hz2]; omega) (by omega)
  rw [show (3 * (f : Int) + 1).toNat = 3 * f + 1 by omega, hz1] at this
  exact this

/-- What Reset leaves. -/
def ResetPost (w : World) (s f : Nat) (e : Ending) (w' : World) : Prop :=
  e = .returned (.tuple #[]) ∧ ∃ bp bc, bp ≠ bc ∧ w.heap.size ≤ bp ∧ w.heap.size ≤ bc ∧ Upd [s] w w' ∧
    w'.heap[s]? = some (.cells #[.int .i64 f, .bool false, .slice none 0 0, .slice (some ⟨bp, 0, none⟩) (3 * f + 1) (3 * f + 1), .slice (some ⟨bc, 0, none⟩) (3 * f + 1) (3 * f + 1)] 307 (0, 0)) ∧
    w'.heap[bp]? = some (.cells (zv (3 * f + 1)) 371 (0, 0)) ∧ w'.heap[bc]? = some (.cells (zv (3 * f + 1)) 371 (0, 0))

set_option maxHeartbeats 400000 in
theorem reset_walk (s : Nat) (f : Nat) (h1 : 1 ≤ f) (h2 : f ≤ 4) (w : World) (a1 a2 a3 a4 : Value) (hb : w.heap[s]? = some (.cells #[.int .i64 f, a1, a2, a3, a4] 307 (0, 0))) :
    Calls Tryz.prog 214 #[.pointer (some ⟨s, 0, none⟩)] w (ResetPost w s f) := by
  have hs : s < w.heap.size := block_lt hb
  have c0 : w.cell? ⟨s, 0, none⟩ = some (.int .i64 f) := by rw [block_cell hb]; rfl
  have c1 : w.cell? ⟨s, 1, none⟩ = some a1 := by rw [block_cell hb]; rfl
  have c2 : w.cell? ⟨s, 2, none⟩ = some a2 := by rw [block_cell hb]; rfl
  have c3 : w.cell? ⟨s, 3, none⟩ = some a3 := by rw [block_cell hb]; rfl
  have c4 : w.cell? ⟨s, 4, none⟩ = some a4 := by rw [block_cell hb]; rfl
  have f1 := block_frozen hb 1
  have f2 := block_frozen hb 2
  have f3 := block_frozen hb 3
  have f4 := block_frozen hb 4
  have HB := Lib.hid hb
  clear hb
  have hmk := fun wx => run_make_votes f h2 wx
  go_enter Tryz.func214, Tryz.ntmps214
  go_wp2_with fail
  refine (nodes_any f _ (by omega) (by omega)).mono ?_
  rintro e w' ⟨rfl, rfl⟩
  go_wp2_with fail
  go_region
  all_goals go_wp2
  all_goals go_end0
  · refine ⟨rfl, w.heap.size, w.heap.size + 1, by omega, by omega, by omega, ?_, ?_, ?_, ?_⟩
    · exact (((((((Upd.refl _ _).setCell (.inl (by simp)) _).setCell (.inl (by simp)) _).setCell (.inl (by simp)) _).setCell (.inl (by simp)) _).alloc _).alloc _).drew
    · rw [hp_drew, hp_old (by simp; omega), hp_old (by simp; omega), hp_same rfl, hp_same rfl, hp_same rfl, hp_same rfl, HB.out]; rfl
    · rw [hp_drew, hp_old (by simp), hp_new (by simp)]
    · rw [hp_drew, hp_new (by simp)]
  · refine ⟨rfl, w.heap.size + 1, w.heap.size, by omega, by omega, by omega, ?_, ?_, ?_, ?_⟩
    · exact (((((((Upd.refl _ _).setCell (.inl (by simp)) _).setCell (.inl (by simp)) _).setCell (.inl (by simp)) _).setCell (.inl (by simp)) _).alloc _).alloc _).drew
    · rw [hp_drew, hp_old (by simp; omega), hp_old (by simp; omega), hp_same rfl, hp_same rfl, hp_same rfl, hp_same rfl, HB.out]; rfl
    · rw [hp_drew, hp_new (by simp)]
    · rw [hp_drew, hp_old (by simp), hp_new (by simp)]

def emptySl (f : Nat) : Sl := ⟨false, [], List.replicate (3 * f + 1) noVt, List.replicate (3 * f + 1) noVt⟩

theorem slot_empty {w : World} {s bp bc f : Nat} (h1 : 1 ≤ f) (h2 : f ≤ 4) (hs : w.heap[s]? = some (.cells #[.int .i64 f, .bool false, .slice none 0 0, .slice (some ⟨bp, 0, none⟩) (3 * f + 1) (3 * f + 1), .slice (some ⟨bc, 0, none⟩) (3 * f + 1) (3 * f + 1)] 307 (0, 0)))
    (hp : w.heap[bp]? = some (.cells (zv (3 * f + 1)) 371 (0, 0))) (hc : w.heap[bc]? = some (.cells (zv (3 * f + 1)) 371 (0, 0))) (e1 : s ≠ bp) (e2 : s ≠ bc) (e3 : bp ≠ bc) : SlotAt w s bp bc (3 * f + 1) (3 * f + 1) f (emptySl f) [] where
  f1 := h1
  f2 := h2
  own := ⟨_, hs, Reads.nil _ _, by simp [blkOf]⟩
  ps := zv_votes hp
  cs := zv_votes hc
  pl := by simp [emptySl]
  cl := by simp [emptySl]
  sp := e1
  sc := e2
  pc := e3
  Ds := by simp
  Dp := by simp
  Dc := by simp
  Dw := by simp
  small := by
    refine ⟨by simp [emptySl], ?_, ?_⟩
    · intro t ht; simp [emptySl] at ht; simp [ht, noVt]
    · intro t ht; simp [emptySl] at ht; simp [ht, noVt]

set_option maxHeartbeats 400000 in
theorem slot_new (f : Nat) (h1 : 1 ≤ f) (h2 : f ≤ 4) (w : World) :
    Calls Tryz.prog 151 #[.int .i64 f] w fun e w' => ∃ s bp bc, e = .returned (.tuple #[.pointer (some ⟨s, 0, none⟩), .int .i64 0]) ∧ Upd [] w w' ∧ w.heap.size ≤ s ∧ w.heap.size ≤ bp ∧ w.heap.size ≤ bc ∧ SlotAt w' s bp bc (3 * f + 1) (3 * f + 1) f (emptySl f) [] := by
  go_enter Tryz.func151, Tryz.ntmps151
  go_wp2_with fail
  refine (reset_walk w.heap.size f h1 h2 _ _ _ _ _ (heap_alloc_new w _)).mono ?_
  rintro e w1 ⟨rfl, bp, bc, e1, e2, e3, e4, e5, e6, e7⟩
  simp only [hs_alloc] at e2 e3
  have E5 := Lib.hid e5
  have E6 := Lib.hid e6
  have E7 := Lib.hid e7
  clear e5 e6 e7
  go_wp2_with fail
  go_ret2
  exact ⟨w.heap.size, bp, bc, rfl, ((Upd.refl _ _).alloc _).then e4 (by intro i hi; simp at hi; omega), Nat.le_refl _, by omega, by omega, slot_empty h1 h2 E5.out E6.out E7.out (by omega) (by omega) e1⟩

theorem slot_reset {w : World} {s bp bc cp cq f : Nat} {st : Sl} {D : List Nat} (h : SlotAt w s bp bc cp cq f st D) :
    Calls Tryz.prog 214 #[.pointer (some ⟨s, 0, none⟩)] w fun e w' => ∃ bp' bc', e = .returned (.tuple #[]) ∧ Upd [s] w w' ∧ w.heap.size ≤ bp' ∧ w.heap.size ≤ bc' ∧ SlotAt w' s bp' bc' (3 * f + 1) (3 * f + 1) f (emptySl f) [] := by
  obtain ⟨v, a1, a2, a3⟩ := h.own
  refine (reset_walk s f h.f1 h.f2 w _ _ _ _ a1).mono ?_
  rintro e w1 ⟨rfl, bp', bc', e1, e2, e3, e4, e5, e6, e7⟩
  have := block_lt a1
  exact ⟨bp', bc', rfl, e4, e2, e3, slot_empty h.f1 h.f2 e5 e6 e7 (by omega) (by omega) e1⟩

/-! ### Pre, Chosen -/

theorem bat_lt {w : World} {v : Value} {rs : List Rq} (h : Bat w v rs) (hp : 0 < rs.length) : ∀ k ∈ blkOf v, k < w.heap.size := by
  obtain ⟨ao, cap, rfl, _, _, _, _, h5⟩ := h
  obtain ⟨b, o, rfl, hb, _⟩ := h5 hp
  intro k hk
  simp [blkOf] at hk
  omega

/-- The chosen batch is laid into the slot. -/
theorem slot_with {w1 w2 : World} {s bp bc cp cq f W : Nat} {st : Sl} {D : List Nat} {ao' : Option Addr} {rs : List Rq} {cap' : Nat} {v : Value} (h : SlotAt w1 s bp bc cp cq f st D)
    (hw2 : w2 = (w1.setCell ⟨s, 1, none⟩ (.bool true)).setCell ⟨s, 2, none⟩ (.slice ao' rs.length cap'))
    (own : w1.heap[s]? = some (.cells #[.int .i64 f, .bool st.has, v, .slice (some ⟨bp, 0, none⟩) (3 * f + 1) cp, .slice (some ⟨bc, 0, none⟩) (3 * f + 1) cq] 307 (0, 0)))
    (hb : Bat w1 (.slice ao' rs.length cap') rs) (hn : ∀ k ∈ blkOf (.slice ao' rs.length cap'), W ≤ k ∧ k < w1.heap.size) (l1 : s < W) (l2 : bp < W) (l3 : bc < W) (hl : rs.length ≤ 100000) :
    SlotAt w2 s bp bc cp cq f { st with has := true, batch := rs } (blkOf (.slice ao' rs.length cap') ++ D) := by
  have HU : Upd [s] w1 w2 := by rw [hw2]; exact ((Upd.refl _ _).setCell (.inl (by simp)) _).setCell (.inl (by simp)) _
  have hbs : ∀ b ∈ blkOf (.slice ao' rs.length cap'), b ∉ [s] := by
    intro b hb e
    have := hn b hb
    simp at e
    omega
  have hDs : ∀ k ∈ D, k ∉ [s] := fun k hk e => by
    simp at e
    subst e
    exact h.Ds hk
  have hD' : ∀ x, x < W → x ∉ D → x ∉ blkOf (.slice ao' rs.length cap') ++ D := by
    intro x hx hxD hin
    rcases List.mem_append.1 hin with h1 | h1
    · have := hn x h1; omega
    · exact hxD h1
  have ps := h.ps.upd HU (by simp; exact fun e => h.sp e.symm) hDs
  have cs := h.cs.upd HU (by simp; exact fun e => h.sc e.symm) hDs
  have wid : ∀ {b : Nat} {vs : List Vt}, VotesAt w2 b vs D → VotesAt w2 b vs (blkOf (.slice ao' rs.length cap') ++ D) := by
    intro b vs ⟨arr, a1, a2, a3⟩
    refine ⟨arr, a1, a2, fun i t hi => ?_⟩
    obtain ⟨v, c1, c2, c3, c4, c5⟩ := a3 i t hi
    exact ⟨v, c1, c2, c3, c4, fun k hk => List.mem_append_right _ (c5 k hk)⟩
  exact {
    f1 := h.f1
    f2 := h.f2
    own := ⟨.slice ao' rs.length cap', by rw [hw2, hp_same rfl, hp_same rfl, own]; rfl, hb.upd HU hbs, fun k hk => List.mem_append_left _ hk⟩
    ps := wid ps
    cs := wid cs
    pl := h.pl
    cl := h.cl
    sp := h.sp
    sc := h.sc
    pc := h.pc
    Ds := hD' s l1 h.Ds
    Dp := hD' bp l2 h.Dp
    Dc := hD' bc l3 h.Dc
    Dw := by
      intro k hk
      have hs := HU.size
      rcases List.mem_append.1 hk with h1 | h1
      · have := hn k h1; omega
      · have := h.Dw k h1; omega
    small := ⟨hl, h.small.2⟩ }

set_option maxHeartbeats 400000 in
theorem slot_pre {w : World} {s bp bc cp cq f : Nat} {st : Sl} {D : List Nat} (h : SlotAt w s bp bc cp cq f st D) (v : Value) (rs : List Rq) (hb : Bat w v rs) (hn : rs.length ≤ 100000) :
    Calls Tryz.prog 217 #[.pointer (some ⟨s, 0, none⟩), v] w fun e w' => e = .returned (.bool (!st.has)) ∧ Upd [s] w w' ∧ ∃ D', (∀ k ∈ D', k ∈ D ∨ w.heap.size ≤ k) ∧
      SlotAt w' s bp bc cp cq f (if st.has then st else { st with has := true, batch := rs }) D' := by
  have H := Lib.hid h
  obtain ⟨ao, cap, l1, l2, l3, c0, c1, c2, c3, c4, fz, b1, b2, own⟩ := h.cells
  have B1 := Lib.hid b1
  have OWN := Lib.hid own
  have HB := Lib.hid hb
  have fz1 := fz 1
  have fz2 := fz 2
  clear b1 own hb fz
  cases hhas : st.has with
  | true =>
    rw [hhas] at c1
    clear hhas
    go_enter Tryz.func217, Tryz.ntmps217
    go_wp2_with fail
    go_ret
    exact ⟨rfl, Upd.refl _ _, D, fun k hk => .inl hk, by simpa using H.out⟩
  | false =>
    rw [hhas] at c1
    have HH := Lib.hid hhas
    clear hhas
    go_enter Tryz.func217, Tryz.ntmps217
    go_wp2_with fail
    refine (fresh_any v rs _ hn HB.out).mono ?_
    rintro e w1 ⟨v', rfl, hu, hbat, hnew⟩
    obtain ⟨ao', cap', rfl⟩ := bat_form hbat
    have HBAT := Lib.hid hbat
    clear hbat
    have k1 := (hu.cell (o := 1) l1 (by simp)).trans c1
    have k2 := (hu.cell (o := 2) l1 (by simp)).trans c2
    have g1 := (hu.frozen (o := 1) l1 (by simp)).trans fz1
    have g2 := (hu.frozen (o := 2) l1 (by simp)).trans fz2
    have OWN1 := Lib.hid ((hu.block s l1 (by simp)).trans OWN.out)
    have H1 := Lib.hid (H.out.upd hu (by simp) (by simp) (by simp) (by simp))
    have hsz := hu.size
    clear c0 c1 c2 c3 c4 fz1 fz2
    go_wp2_with fail
    go_ret
    have HU : Upd [s] w1 ((w1.setCell ⟨s, 1, none⟩ (.bool true)).setCell ⟨s, 2, none⟩ (.slice ao' rs.length cap')) := ((Upd.refl _ _).setCell (.inl (by simp)) _).setCell (.inl (by simp)) _
    have H2 := H1.out
    have hnD : ∀ k ∈ blkOf (.slice ao' rs.length cap'), w.heap.size ≤ k := fun k hk => (hnew k hk).1
    refine ⟨rfl, (hu.mono (by simp)).trans HU, blkOf (.slice ao' rs.length cap') ++ D, ?_, ?_⟩
    · intro k hk
      rcases List.mem_append.1 hk with hk | hk
      · exact .inr (hnD k hk)
      · exact .inl hk
    · exact slot_with H2 rfl OWN1.out HBAT.out hnew l1 l2 l3 hn

/-! ### votes, Vote, Voted -/

set_option maxHeartbeats 400000 in
theorem votes_any {w : World} {s bp bc cp cq f : Nat} {st : Sl} {D : List Nat} (h : SlotAt w s bp bc cp cq f st D) (kind : Int) :
    Calls Tryz.prog 287 #[.pointer (some ⟨s, 0, none⟩), .int .i64 kind] w fun e w' =>
      e = .returned (if kind = 4 then .slice (some ⟨bp, 0, none⟩) (3 * f + 1) cp else if kind = 5 then .slice (some ⟨bc, 0, none⟩) (3 * f + 1) cq else .slice none 0 0) ∧ w = w' := by
  obtain ⟨ao, cap, l1, l2, l3, c0, c1, c2, c3, c4, fz, b1, b2, own⟩ := h.cells
  clear b1 own fz b2
  by_cases h4 : kind = 4
  · subst h4
    go_enter Tryz.func287, Tryz.ntmps287
    go_wp2_with fail
    go_ret
    exact ⟨rfl, rfl⟩
  · by_cases h5 : kind = 5
    · subst h5
      go_enter Tryz.func287, Tryz.ntmps287
      go_wp2_with fail
      go_ret
      exact ⟨rfl, rfl⟩
    · have h4b : (kind == 4) = false := by simp [h4]
      have h5b : (kind == 5) = false := by simp [h5]
      have H4 := Lib.hid h4
      have H5 := Lib.hid h5
      clear h4 h5
      go_enter Tryz.func287, Tryz.ntmps287
      go_wp2_with fail
      go_ret
      exact ⟨rfl, rfl⟩

/-- Has the node voted, in this list? -/
def votedB (l : List Vt) (node : Int) : Bool := decide (0 ≤ node) && match l[node.toNat]? with | some t => t.has | none => false
def openB (l : List Vt) (node : Int) : Bool := decide (0 ≤ node) && match l[node.toNat]? with | some t => !t.has | none => false

def listOf (st : Sl) (kind : Int) : List Vt := if kind = 4 then st.ps else if kind = 5 then st.cs else []
def canVote (st : Sl) (kind node : Int) : Bool := openB (listOf st kind) node
def voteS (st : Sl) (kind node sl : Int) (rs : List Rq) : Sl :=
  if canVote st kind node then
    if kind = 4 then { st with ps := st.ps.set node.toNat ⟨true, sl, rs⟩ } else { st with cs := st.cs.set node.toNat ⟨true, sl, rs⟩ }
  else st

theorem votes_set {w w2 : World} {b : Nat} {vs : List Vt} {D : List Nat} {i : Nat} {sl : Int} {v' : Value} {rs : List Rq} (h : VotesAt w b vs D)
    (hw2 : w2 = ((w.setCell ⟨b, i * 3, none⟩ (.bool true)).setCell ⟨b, i * 3 + 1, none⟩ (.int .i64 sl)).setCell ⟨b, i * 3 + 2, none⟩ v') (hi : i < vs.length) (hb : Bat w v' rs) (hv : b ∉ blkOf v') (hD : b ∉ D) :
    VotesAt w2 b (vs.set i ⟨true, sl, rs⟩) (blkOf v' ++ D) := by
  have HU : Upd [b] w w2 := by rw [hw2]; exact (((Upd.refl _ _).setCell (.inl (by simp)) _).setCell (.inl (by simp)) _).setCell (.inl (by simp)) _
  obtain ⟨arr, a1, a2, a3⟩ := h
  refine ⟨((arr.setIfInBounds (i * 3) (.bool true)).setIfInBounds (i * 3 + 1) (.int .i64 sl)).setIfInBounds (i * 3 + 2) v', ?_, by simpa using a2, fun j t hj => ?_⟩
  · rw [hw2, hp_same rfl, hp_same rfl, hp_same rfl, a1]; rfl
  · have hjl : j < vs.length := by simpa using (List.getElem?_eq_some_iff.1 hj).1
    by_cases hji : j = i
    · subst hji
      rw [List.getElem?_set_self hjl] at hj
      cases hj
      refine ⟨v', ?_, ?_, ?_, hb.upd HU (by intro k hk e; simp at e; subst e; exact hv hk), fun k hk => List.mem_append_left _ hk⟩
      · rw [Array.getElem?_setIfInBounds_ne (by omega), Array.getElem?_setIfInBounds_ne (by omega), Array.getElem?_setIfInBounds_self, if_pos (by omega)]
      · rw [Array.getElem?_setIfInBounds_ne (by omega), Array.getElem?_setIfInBounds_self, if_pos (by simp; omega)]
      · rw [Array.getElem?_setIfInBounds_self, if_pos (by simp; omega)]
    · rw [List.getElem?_set_ne (Ne.symm hji)] at hj
      obtain ⟨v, c1, c2, c3, c4, c5⟩ := a3 j t hj
      refine ⟨v, ?_, ?_, ?_, c4.upd HU (by intro k hk e; simp at e; subst e; exact hD (c5 k hk)), fun k hk => List.mem_append_right _ (c5 k hk)⟩
      · rw [Array.getElem?_setIfInBounds_ne (by omega), Array.getElem?_setIfInBounds_ne (by omega), Array.getElem?_setIfInBounds_ne (by omega)]; exact c1
      · rw [Array.getElem?_setIfInBounds_ne (by omega), Array.getElem?_setIfInBounds_ne (by omega), Array.getElem?_setIfInBounds_ne (by omega)]; exact c2
      · rw [Array.getElem?_setIfInBounds_ne (by omega), Array.getElem?_setIfInBounds_ne (by omega), Array.getElem?_setIfInBounds_ne (by omega)]; exact c3

/-- What is written where a vote is counted. -/
def Stored (w w' : World) (b i : Nat) (sl : Int) (rs : List Rq) : Prop :=
  ∃ w1 ao cap, Upd [] w w1 ∧ Bat w1 (.slice ao rs.length cap) rs ∧ (∀ k ∈ blkOf (.slice ao rs.length cap), w.heap.size ≤ k ∧ k < w1.heap.size) ∧
    w' = ((w1.setCell ⟨b, i * 3, none⟩ (.bool true)).setCell ⟨b, i * 3 + 1, none⟩ (.int .i64 sl)).setCell ⟨b, i * 3 + 2, none⟩ (.slice ao rs.length cap)

set_option maxHeartbeats 400000 in
theorem vote_yes {w : World} {s bp bc cp cq f : Nat} {st : Sl} {D : List Nat} (h : SlotAt w s bp bc cp cq f st D) (kind : Int) (node : Nat) (sl : Int) (v : Value) (rs : List Rq) (b cb : Nat) (l : List Vt) (hl : l.length = 3 * f + 1)
    (hk : (if kind = 4 then .slice (some ⟨bp, 0, none⟩) (3 * f + 1) cp else if kind = 5 then .slice (some ⟨bc, 0, none⟩) (3 * f + 1) cq else .slice none 0 0 : Value) = .slice (some ⟨b, 0, none⟩) (3 * f + 1) cb)
    (hv : VotesAt w b l D) (t : Vt) (ht : l[node]? = some t) (hhas : t.has = false) (hb : Bat w v rs) (hn : rs.length ≤ 100000) :
    Calls Tryz.prog 264 #[.pointer (some ⟨s, 0, none⟩), .int .i64 kind, .int .i64 node, .int .i64 sl, v] w fun e w' => e = .returned (.bool true) ∧ Stored w w' b node sl rs := by
  have HB := Lib.hid hb
  obtain ⟨bv, c0, c1, c2, _, hbw, _, fz⟩ := hv.cells node t ht
  rw [hhas] at c0
  have H := Lib.hid h
  have hf2 := h.f2
  have hnl : node < 3 * f + 1 := by rw [← hl]; exact (List.getElem?_eq_some_iff.1 ht).1
  have q0 := fz (node * 3)
  have q1 := fz (node * 3 + 1)
  have q2 := fz (node * 3 + 2)
  have HK := Lib.hid hk
  clear hb hk ht hhas fz hl hv h
  have i1 : ¬ (node : Int) < 0 := by omega
  have i2 : (node : Int) < 3 * (f : Int) + 1 := by omega
  have i3 : ¬ ((3 * f + 1 : Nat) : Int) ≤ (node : Int) := by omega
  go_enter Tryz.func264, Tryz.ntmps264
  go_wp2_with fail
  refine (votes_any H.out kind).mono ?_
  rw [HK.out]
  rintro e w' ⟨rfl, rfl⟩
  go_wp2_with fail
  refine (fresh_any v rs _ hn HB.out).mono ?_
  rintro e w1 ⟨v', rfl, hu, hbat, hnew⟩
  obtain ⟨ao', cap', rfl⟩ := bat_form hbat
  have HBAT := Lib.hid hbat
  clear hbat
  have k0 := (hu.cell (o := node * 3) hbw (by simp)).trans c0
  have k1 := (hu.cell (o := node * 3 + 1) hbw (by simp)).trans c1
  have k2 := (hu.cell (o := node * 3 + 2) hbw (by simp)).trans c2
  have g0 := (hu.frozen (o := node * 3) hbw (by simp)).trans q0
  have g1 := (hu.frozen (o := node * 3 + 1) hbw (by simp)).trans q1
  have g2 := (hu.frozen (o := node * 3 + 2) hbw (by simp)).trans q2
  have HNEW := Lib.hid hnew
  clear c0 c1 c2 q0 q1 q2 hnew
  go_wp2_with fail
  go_ret
  exact ⟨rfl, w1, ao', cap', hu, HBAT.out, HNEW.out, rfl⟩

end Go.Proofs.YtannckelmojkoaaGreat

/- slot.Vote, slot.Voted. -/
namespace Go.Proofs.YtannckelmojkoaaGreat
open Go.RowKit Go.Heap

set_option maxHeartbeats 400000 in
theorem vote_out {w : World} {s bp bc cp cq f : Nat} {st : Sl} {D : List Nat} (h : SlotAt w s bp bc cp cq f st D) (kind node sl : Int) (v : Value) (ao : Option Addr) (n cb : Nat)
    (hk : (if kind = 4 then .slice (some ⟨bp, 0, none⟩) (3 * f + 1) cp else if kind = 5 then .slice (some ⟨bc, 0, none⟩) (3 * f + 1) cq else .slice none 0 0 : Value) = .slice ao n cb)
    (ho : node < 0 ∨ (n : Int) ≤ node) :
    Calls Tryz.prog 264 #[.pointer (some ⟨s, 0, none⟩), .int .i64 kind, .int .i64 node, .int .i64 sl, v] w fun e w' => e = .returned (.bool false) ∧ w = w' := by
  have H := Lib.hid h
  have HK := Lib.hid hk
  clear hk h
  rcases ho with ho | ho
  · go_enter Tryz.func264, Tryz.ntmps264
    go_wp2_with fail
    refine (votes_any H.out kind).mono ?_
    rw [HK.out]
    rintro e w' ⟨rfl, rfl⟩
    go_wp2_with fail
    go_ret
    exact ⟨rfl, rfl⟩
  · have h0 : ¬ node < 0 := by omega
    go_enter Tryz.func264, Tryz.ntmps264
    go_wp2_with fail
    refine (votes_any H.out kind).mono ?_
    rw [HK.out]
    rintro e w' ⟨rfl, rfl⟩
    go_wp2_with fail
    go_ret
    exact ⟨rfl, rfl⟩

set_option maxHeartbeats 400000 in
theorem vote_has {w : World} {s bp bc cp cq f : Nat} {st : Sl} {D : List Nat} (h : SlotAt w s bp bc cp cq f st D) (kind : Int) (node : Nat) (sl : Int) (v : Value) (b cb : Nat) (l : List Vt) (hl : l.length = 3 * f + 1)
    (hk : (if kind = 4 then .slice (some ⟨bp, 0, none⟩) (3 * f + 1) cp else if kind = 5 then .slice (some ⟨bc, 0, none⟩) (3 * f + 1) cq else .slice none 0 0 : Value) = .slice (some ⟨b, 0, none⟩) (3 * f + 1) cb)
    (hv : VotesAt w b l D) (t : Vt) (ht : l[node]? = some t) (hhas : t.has = true) :
    Calls Tryz.prog 264 #[.pointer (some ⟨s, 0, none⟩), .int .i64 kind, .int .i64 node, .int .i64 sl, v] w fun e w' => e = .returned (.bool false) ∧ w = w' := by
  obtain ⟨bv, c0, c1, c2, _, hbw, _, fz⟩ := hv.cells node t ht
  rw [hhas] at c0
  have H := Lib.hid h
  have hf2 := h.f2
  have hnl : node < 3 * f + 1 := by rw [← hl]; exact (List.getElem?_eq_some_iff.1 ht).1
  have HK := Lib.hid hk
  clear hk ht hhas fz hl hv h
  have i1 : ¬ (node : Int) < 0 := by omega
  have i2 : (node : Int) < 3 * (f : Int) + 1 := by omega
  have i3 : ¬ ((3 * f + 1 : Nat) : Int) ≤ (node : Int) := by omega
  go_enter Tryz.func264, Tryz.ntmps264
  go_wp2_with fail
  refine (votes_any H.out kind).mono ?_
  rw [HK.out]
  rintro e w' ⟨rfl, rfl⟩
  go_wp2_with fail
  go_ret
  exact ⟨rfl, rfl⟩

/-- What a call of Vote does to a slot. -/
def VotePost (w : World) (s bp bc cp cq f : Nat) (st : Sl) (D : List Nat) (kind node sl : Int) (rs : List Rq) (e : Ending) (w' : World) : Prop :=
  e = .returned (.bool (canVote st kind node)) ∧ Upd [bp, bc] w w' ∧ ∃ D', (∀ k ∈ D', k ∈ D ∨ w.heap.size ≤ k) ∧ SlotAt w' s bp bc cp cq f (voteS st kind node sl rs) D'

theorem votePost_no {w : World} {s bp bc cp cq f : Nat} {st : Sl} {D : List Nat} (h : SlotAt w s bp bc cp cq f st D) {kind node sl : Int} {rs : List Rq} (hc : canVote st kind node = false) : VotePost w s bp bc cp cq f st D kind node sl rs (.returned (.bool false)) w :=
  ⟨by rw [hc], Upd.refl _ _, D, fun k hk => .inl hk, by unfold voteS; rw [hc]; exact h⟩

theorem wide_votes {w : World} {b : Nat} {vs : List Vt} {D E : List Nat} (h : VotesAt w b vs D) : VotesAt w b vs (E ++ D) := by
  obtain ⟨arr, a1, a2, a3⟩ := h
  refine ⟨arr, a1, a2, fun i t hi => ?_⟩
  obtain ⟨v, c1, c2, c3, c4, c5⟩ := a3 i t hi
  exact ⟨v, c1, c2, c3, c4, fun k hk => List.mem_append_right _ (c5 k hk)⟩

theorem votePost_yes {w w' : World} {s bp bc cp cq f : Nat} {st : Sl} {D : List Nat} (h : SlotAt w s bp bc cp cq f st D) {kind sl : Int} {node : Nat} {rs : List Rq} {b : Nat} (hc : canVote st kind node = true) (hn : rs.length ≤ 100000)
    (hb : kind = 4 ∧ b = bp ∨ kind = 5 ∧ b = bc) (hnode : node < 3 * f + 1) (hs : Stored w w' b node sl rs) : VotePost w s bp bc cp cq f st D kind node sl rs (.returned (.bool true)) w' := by
  obtain ⟨w1, ao, cap, hu, hbat, hnew, hw'⟩ := hs
  obtain ⟨_, _, l1, l2, l3, _⟩ := h.cells
  have h1 := h.upd hu (by simp) (by simp) (by simp) (by simp)
  have HU : Upd [b] w1 w' := by rw [hw']; exact (((Upd.refl _ _).setCell (.inl (by simp)) _).setCell (.inl (by simp)) _).setCell (.inl (by simp)) _
  have hsz := HU.size
  have hbl : ∀ x, x < w.heap.size → x ∉ blkOf (.slice ao rs.length cap) := fun x hx hin => by have := hnew x hin; omega
  have hbD : b ∉ D := by
    rcases hb with ⟨_, e⟩ | ⟨_, e⟩
    · rw [e]; exact h.Dp
    · rw [e]; exact h.Dc
  have hbw : b < w.heap.size := by
    rcases hb with ⟨_, e⟩ | ⟨_, e⟩
    · rw [e]; exact l2
    · rw [e]; exact l3
  have hDb : ∀ k ∈ D, k ∉ [b] := fun k hk e => by simp at e; subst e; exact hbD hk
  have hbb : ∀ k ∈ blkOf (.slice ao rs.length cap), k ∉ [b] := fun k hk e => by simp at e; subst e; exact hbl _ hbw hk
  obtain ⟨v0, o1, o2, o3⟩ := h1.own
  have hsb : s ≠ b := by
    rcases hb with ⟨_, e⟩ | ⟨_, e⟩
    · rw [e]; exact h.sp
    · rw [e]; exact h.sc
  have own' : ∃ v, w'.heap[s]? = some (.cells #[.int .i64 f, .bool st.has, v, .slice (some ⟨bp, 0, none⟩) (3 * f + 1) cp, .slice (some ⟨bc, 0, none⟩) (3 * f + 1) cq] 307 (0, 0)) ∧ Bat w' v st.batch ∧ ∀ k ∈ blkOf v, k ∈ blkOf (.slice ao rs.length cap) ++ D :=
    ⟨v0, by rw [HU.block s (block_lt o1) (by simpa using hsb)]; exact o1, o2.upd HU (fun k hk => hDb k (o3 k hk)), fun k hk => List.mem_append_right _ (o3 k hk)⟩
  have hD' : ∀ x, x < w.heap.size → x ∉ D → x ∉ blkOf (.slice ao rs.length cap) ++ D := by
    intro x hx hxD hin
    rcases List.mem_append.1 hin with h1 | h1
    · exact hbl x hx h1
    · exact hxD h1
  have hDw : ∀ k ∈ blkOf (.slice ao rs.length cap) ++ D, k < w'.heap.size := by
    intro k hk
    rcases List.mem_append.1 hk with h2 | h2
    · have := hnew k h2; omega
    · have := h1.Dw k h2; omega
  refine ⟨by rw [hc], (hu.mono (by simp)).trans (HU.mono (by intro k _ hk; simp at hk; subst hk; rcases hb with ⟨_, e⟩ | ⟨_, e⟩ <;> simp [e])), blkOf (.slice ao rs.length cap) ++ D, ?_, ?_⟩
  · intro k hk
    rcases List.mem_append.1 hk with hk | hk
    · exact .inr (hnew k hk).1
    · exact .inl hk
  · unfold voteS
    rw [hc, if_pos rfl, Int.toNat_natCast]
    rcases hb with ⟨rfl, rfl⟩ | ⟨rfl, rfl⟩
    · rw [if_pos rfl]
      exact {
        f1 := h.f1, f2 := h.f2, own := own', sp := h.sp, sc := h.sc, pc := h.pc
        ps := votes_set h1.ps hw' (by rw [h.pl]; exact hnode) hbat (hbl _ l2) h.Dp
        cs := wide_votes (h1.cs.upd HU (by simpa using Ne.symm h.pc) hDb)
        pl := by simpa using h.pl
        cl := h.cl
        Ds := hD' s l1 h.Ds, Dp := hD' _ l2 h.Dp, Dc := hD' _ l3 h.Dc, Dw := hDw
        small := ⟨h.small.1, fun t ht => by
          rcases List.mem_or_eq_of_mem_set ht with h2 | h2
          · exact h.small.2.1 t h2
          · rw [h2]; exact hn, h.small.2.2⟩ }
    · rw [if_neg (by omega)]
      exact {
        f1 := h.f1, f2 := h.f2, own := own', sp := h.sp, sc := h.sc, pc := h.pc
        ps := wide_votes (h1.ps.upd HU (by simpa using h.pc) hDb)
        cs := votes_set h1.cs hw' (by rw [h.cl]; exact hnode) hbat (hbl _ l3) h.Dc
        pl := h.pl
        cl := by simpa using h.cl
        Ds := hD' s l1 h.Ds, Dp := hD' _ l2 h.Dp, Dc := hD' _ l3 h.Dc, Dw := hDw
        small := ⟨h.small.1, h.small.2.1, fun t ht => by
          rcases List.mem_or_eq_of_mem_set ht with h2 | h2
          · exact h.small.2.2 t h2
          · rw [h2]; exact hn⟩ }

theorem slot_vote {w : World} {s bp bc cp cq f : Nat} {st : Sl} {D : List Nat} (h : SlotAt w s bp bc cp cq f st D) (kind node sl : Int) (v : Value) (rs : List Rq) (hb : Bat w v rs) (hn : rs.length ≤ 100000) :
    Calls Tryz.prog 264 #[.pointer (some ⟨s, 0, none⟩), .int .i64 kind, .int .i64 node, .int .i64 sl, v] w (VotePost w s bp bc cp cq f st D kind node sl rs) := by
  have nope : ∀ {e : Ending} {w' : World}, canVote st kind node = false → e = .returned (.bool false) ∧ w = w' → VotePost w s bp bc cp cq f st D kind node sl rs e w' := by
    rintro e w' hc ⟨rfl, rfl⟩
    exact votePost_no h hc
  by_cases hk : kind = 4 ∨ kind = 5
  · obtain ⟨b, cb, l, hl, hkv, hvv, hlist, hbb⟩ : ∃ (b cb : Nat) (l : List Vt), l.length = 3 * f + 1 ∧ (if kind = 4 then .slice (some ⟨bp, 0, none⟩) (3 * f + 1) cp else if kind = 5 then .slice (some ⟨bc, 0, none⟩) (3 * f + 1) cq else .slice none 0 0 : Value) = .slice (some ⟨b, 0, none⟩) (3 * f + 1) cb ∧
        VotesAt w b l D ∧ listOf st kind = l ∧ (kind = 4 ∧ b = bp ∨ kind = 5 ∧ b = bc) := by
      rcases hk with rfl | rfl
      · exact ⟨bp, cp, st.ps, h.pl, by rw [if_pos rfl], h.ps, by simp [listOf], .inl ⟨rfl, rfl⟩⟩
      · exact ⟨bc, cq, st.cs, h.cl, by rw [if_neg (by omega), if_pos rfl], h.cs, by simp [listOf], .inr ⟨rfl, rfl⟩⟩
    by_cases hin : 0 ≤ node ∧ node < 3 * (f : Int) + 1
    · obtain ⟨i, rfl⟩ := Int.eq_ofNat_of_zero_le hin.1
      have hil : i < l.length := by omega
      have hget : l[i]? = some l[i] := List.getElem?_eq_getElem hil
      by_cases hhas : l[i].has = true
      · refine (vote_has h kind i sl v b cb l hl hkv hvv _ hget hhas).mono fun e w' => nope ?_
        simp [canVote, openB, hlist, hget, hhas]
      · have hhas' : l[i].has = false := by simpa using hhas
        refine (vote_yes h kind i sl v rs b cb l hl hkv hvv _ hget hhas' hb hn).mono fun e w' ⟨he, hst⟩ => ?_
        subst he
        exact votePost_yes h (by simp [canVote, openB, hlist, hget, hhas']) hn hbb (by omega) hst
    · refine (vote_out h kind node sl v _ _ _ hkv (by omega)).mono fun e w' => nope ?_
      unfold canVote openB
      rw [hlist]
      by_cases h0 : 0 ≤ node
      · rw [List.getElem?_eq_none (by omega)]; simp
      · simp [h0]
  · have h4 : ¬ kind = 4 := fun e => hk (.inl e)
    have h5 : ¬ kind = 5 := fun e => hk (.inr e)
    refine (vote_out h kind node sl v none 0 0 (by rw [if_neg h4, if_neg h5]) (by omega)).mono fun e w' => nope ?_
    simp [canVote, openB, listOf, h4, h5]

end Go.Proofs.YtannckelmojkoaaGreat

/- slot.Voted, Chosen, Prepared, Committed. -/
namespace Go.Proofs.YtannckelmojkoaaGreat
open Go.RowKit Go.Heap

/-! ### Chosen -/

def chosenS (st : Sl) : List Rq := if st.has then st.batch else []

set_option maxHeartbeats 400000 in
theorem slot_chosen {w : World} {s bp bc cp cq f : Nat} {st : Sl} {D : List Nat} (h : SlotAt w s bp bc cp cq f st D) :
    Calls Tryz.prog 215 #[.pointer (some ⟨s, 0, none⟩)] w fun e w' => ∃ u, e = .returned (.tuple #[u, .bool st.has]) ∧ Upd [] w w' ∧ Bat w' u (chosenS st) ∧ ∀ k ∈ blkOf u, w.heap.size ≤ k ∧ k < w'.heap.size := by
  have H := Lib.hid h
  obtain ⟨ao, cap, l1, l2, l3, c0, c1, c2, c3, c4, fz, b1, b2, own⟩ := h.cells
  have B1 := Lib.hid b1
  clear b1 own fz b2 h
  unfold chosenS
  cases hhas : st.has with
  | false =>
    rw [hhas] at c1
    clear hhas
    go_enter Tryz.func215, Tryz.ntmps215
    go_wp2_with fail
    go_ret2
    exact ⟨_, rfl, Upd.refl _ _, Reads.nil _ _, by simp [blkOf]⟩
  | true =>
    rw [hhas] at c1
    clear hhas
    go_enter Tryz.func215, Tryz.ntmps215
    go_wp2_with fail
    refine (fresh_any _ st.batch _ H.out.small.1 B1.out).mono ?_
    rintro e w1 ⟨v', rfl, hu, hbat, hnew⟩
    have HBAT := Lib.hid hbat
    have HNEW := Lib.hid hnew
    clear hbat hnew
    go_wp2_with fail
    go_ret2
    exact ⟨_, rfl, hu, HBAT.out, HNEW.out⟩

/-! ### Prepared -/

def preparedS (f : Nat) (st : Sl) : Option Vs := if st.has then enoughS st.ps st.batch (2 * f + 1) else none

set_option maxHeartbeats 400000 in
set_option maxRecDepth 100000 in
theorem slot_prepared {w : World} {s bp bc cp cq f : Nat} {st : Sl} {D : List Nat} (h : SlotAt w s bp bc cp cq f st D) :
    Calls Tryz.prog 280 #[.pointer (some ⟨s, 0, none⟩)] w fun e w' => ∃ u, e = .returned (.tuple #[u, .bool (preparedS f st).isSome]) ∧ Below w.heap.size w w' ∧ Vts w' u ((preparedS f st).getD []) ∧ ∀ k ∈ blkOf u, w.heap.size ≤ k := by
  have H := Lib.hid h
  obtain ⟨ao, cap, l1, l2, l3, c0, c1, c2, c3, c4, fz, b1, b2, own⟩ := h.cells
  have B1 := Lib.hid b1
  have hpl := h.pl
  have HPL := Lib.hid hpl
  clear b1 own fz b2 h hpl
  unfold preparedS
  cases hhas : st.has with
  | false =>
    rw [hhas] at c1
    clear hhas
    go_enter Tryz.func280, Tryz.ntmps280
    go_wp2_with fail
    go_ret2
    exact ⟨_, rfl, Below.refl _ _, Reads.nil _ _, by simp [blkOf]⟩
  | true =>
    rw [hhas] at c1
    clear hhas
    go_enter Tryz.func280, Tryz.ntmps280
    go_wp2_with fail
    refine Mix.wp_text (by kernel_rfl) (by kernel_rfl) ?_
    go_wp2_with fail
    have hen := enough_any s bp cp (.slice ao st.batch.length cap) f st.ps D st.batch w.drew H.out.f1 H.out.f2 (by rw [HPL.out]; have := H.out.f2; omega) l1 (by rw [HPL.out]; omega) c0 H.out.ps B1.out H.out.small.1 H.out.small.2.1
    rw [HPL.out] at hen
    refine hen.mono ?_
    clear hen
    rintro e w1 ⟨u, rfl, hb1, hv, hn⟩
    have HV := Lib.hid hv
    have HN := Lib.hid hn
    clear hv hn
    go_wp2_with fail
    refine ⟨by rfl, ?_⟩
    go_wp2_with fail
    go_ret2
    exact ⟨_, rfl, (Below.refl _ _).drew.trans hb1, HV.out, HN.out⟩

end Go.Proofs.YtannckelmojkoaaGreat

/- slot.Committed. -/
namespace Go.Proofs.YtannckelmojkoaaGreat
open Go.RowKit Go.Heap

/-- The first batch for which there are q votes, and these. -/
def committedL (all : List Vt) (q : Nat) : List Vt → Option (List Rq × Vs)
  | [] => none
  | t :: r => if t.has then (match enoughS all t.batch q with | some vs => some (t.batch, vs) | none => committedL all q r) else committedL all q r

def committedS (f : Nat) (st : Sl) : Option (List Rq × Vs) := committedL st.cs (2 * f + 1) st.cs

def batchOf (r : Option (List Rq × Vs)) : List Rq := match r with | some p => p.1 | none => []
def votesOf (r : Option (List Rq × Vs)) : Vs := match r with | some p => p.2 | none => []

def CommittedPost (w : World) (r : Option (List Rq × Vs)) (e : Ending) (w' : World) : Prop :=
  ∃ v u, e = .returned (.tuple #[v, u, .bool r.isSome]) ∧ Below w.heap.size w w' ∧ Bat w' v (batchOf r) ∧ Vts w' u (votesOf r) ∧ (∀ k ∈ blkOf v, w.heap.size ≤ k) ∧ ∀ k ∈ blkOf u, w.heap.size ≤ k

set_option maxHeartbeats 1000000 in
set_option maxRecDepth 100000 in
theorem slot_committed {w : World} {s bp bc cp cq f : Nat} {st : Sl} {D : List Nat} (h : SlotAt w s bp bc cp cq f st D) :
    Calls Tryz.prog 282 #[.pointer (some ⟨s, 0, none⟩)] w (CommittedPost w (committedS f st)) := by
  have H := Lib.hid h
  obtain ⟨ao, cap, l1, l2, l3, c0, c1, c2, c3, c4, fz, b1, b2, own⟩ := h.cells
  have hcl := h.cl
  have hf1 := h.f1
  have hf2 := h.f2
  have hlen : st.cs.length ≤ 13 := by omega
  have HCL := Lib.hid hcl
  clear b1 own fz b2 h hcl c1 c2 c3
  go_enter Tryz.func282, Tryz.ntmps282
  go_wp2_with fail
  go_loopw [14] (fun i wr => ∃ k : Nat, k ≤ 3 * f + 1 ∧ i = .int .i64 k ∧ Below w.heap.size w wr ∧ Hid (committedS f st = committedL st.cs (2 * f + 1) (st.cs.drop k))) (fun i _ => 3 * f + 1 - (intOf i).toNat)
  case atStart => exact ⟨0, by omega, rfl, Below.refl _ _, by rfl⟩
  case round =>
    obtain ⟨k, hk, rfl, hbel, hcom⟩ := hrel
    have hz := hbel.size
    have k0 := (hbel.cell (p := ⟨s, 0, none⟩) l1).trans c0
    have k4 := (hbel.cell (p := ⟨s, 4, none⟩) l1).trans c4
    by_cases hlt : k < 3 * f + 1
    · have hkl : k < st.cs.length := by rw [HCL.out]; exact hlt
      have hvr := H.out.cs.upd (M := []) (Upd.of_below hbel) (by simp) (by simp)
      obtain ⟨bv, d0, d1, d2, hbat, hbw, _, _⟩ := hvr.cells k st.cs[k] (by simp)
      obtain ⟨bo, bcap, rfl⟩ := bat_form hbat
      have HBAT := Lib.hid hbat
      have HVR := Lib.hid hvr
      have hlk := H.out.small.2.2 st.cs[k] (by simp)
      have hkI : (k : Int) < 3 * (f : Int) + 1 := by omega
      have hkN : (k : Int) < ((3 * f + 1 : Nat) : Int) := by omega
      clear hvr hbat
      have hdrop := Lib.hid (List.drop_eq_getElem_cons hkl)
      by_cases hhas : st.cs[k].has = true
      · rw [hhas] at d0
        have HHAS := Lib.hid hhas
        clear hhas
        have hsr : s < wr.heap.size := Nat.lt_of_lt_of_le l1 hz
        have hsn : s ≠ wr.heap.size := by omega
        go_wp2_with fail
        refine Mix.wp_text (by kernel_rfl) (by kernel_rfl) ?_
        go_wp2_with fail
        have HU0 : Upd [] wr (wr.alloc (.cells #[.bool true, .int .i64 st.cs[k].sl, .slice bo st.cs[k].batch.length bcap] 371)).drew := ((Upd.refl _ _).alloc _).drew
        have hen := enough_any s bc cq (.slice bo st.cs[k].batch.length bcap) f st.cs D st.cs[k].batch (wr.alloc (.cells #[.bool true, .int .i64 st.cs[k].sl, .slice bo st.cs[k].batch.length bcap] 371)).drew hf1 hf2 hlen (by simp; omega) (by omega)
          ((HU0.cell hsr (by simp)).trans k0) (HVR.out.upd HU0 (by simp) (by simp)) (HBAT.out.upd HU0 (by simp)) hlk H.out.small.2.2
        rw [HCL.out] at hen
        simp only [hs_drew, hs_alloc] at hen
        have hx2 : (wr.alloc (.cells #[.bool true, .int .i64 st.cs[k].sl, .slice bo st.cs[k].batch.length bcap] 371)).cell? ⟨wr.heap.size, 2, none⟩ = some (.slice bo st.cs[k].batch.length bcap) := by
          rw [block_cell (heap_alloc_new wr _)]; rfl
        have HX2 := Lib.hid hx2
        clear hx2
        have hbelq : Below w.heap.size w (wr.alloc (.cells #[.bool true, .int .i64 st.cs[k].sl, .slice bo st.cs[k].batch.length bcap] 371)).drew := (hbel.alloc hz _).drew
        cases hr : enoughS st.cs st.cs[k].batch (2 * f + 1) with
        | none =>
          rw [hr] at hen
          have HR := Lib.hid hr
          clear hr
          refine hen.mono ?_
          clear hen
          rintro e w2 ⟨u, rfl, hb1, -, -⟩
          go_wp2_with fail
          refine ⟨by rfl, ?_⟩
          go_wp2_with fail
          go_roundw
          case rel =>
            refine ⟨k + 1, by omega, by go_num, hbelq.trans (hb1.mono (by omega)), ?_⟩
            have h1 := hcom.out
            rw [hdrop.out] at h1
            show committedS f st = _
            rw [h1, committedL, if_pos HHAS.out, HR.out]
          case measure => simp [intOf]; omega
        | some vs =>
          rw [hr] at hen
          have HR := Lib.hid hr
          clear hr
          refine hen.mono ?_
          clear hen
          rintro e w2 ⟨u, rfl, hb1, hv, hn⟩
          have HV := Lib.hid hv
          have HN := Lib.hid hn
          clear hv hn
          have x2 : w2.cell? ⟨wr.heap.size, 2, none⟩ = some (.slice bo st.cs[k].batch.length bcap) := (hb1.cell (p := ⟨wr.heap.size, 2, none⟩) (Nat.lt_succ_self _)).trans HX2.out
          go_wp2_with fail
          refine ⟨by rfl, ?_⟩
          go_wp2_with fail
          refine (fresh_any _ st.cs[k].batch _ hlk ((HBAT.out.upd HU0 (by simp)).upd (M := []) (Upd.of_below (by simpa using hb1)) (by simp))).mono ?_
          rintro e w3 ⟨v', rfl, hu3, hbat3, hnew3⟩
          have HB3 := Lib.hid hbat3
          have HN3 := Lib.hid hnew3
          clear hbat3 hnew3
          have hz2 := hb1.size
          simp only [hs_drew, hs_alloc] at hz2
          go_wp2_with fail
          go_ret3
          have hcs : committedS f st = some (st.cs[k].batch, vs) := by rw [hcom.out, hdrop.out, committedL, if_pos HHAS.out, HR.out]
          refine ⟨v', u, by rw [hcs]; rfl, (hbelq.trans (hb1.mono (by omega))).trans (hu3.below.mono (by omega)), by rw [hcs]; exact HB3.out, ?_, ?_, ?_⟩
          · rw [hcs]; exact HV.out.upd hu3 (by simp)
          · intro j hj; have := (HN3.out j hj).1; omega
          · intro j hj; have := HN.out j hj; omega
      · have hhas' : st.cs[k].has = false := by simpa using hhas
        rw [hhas'] at d0
        have HHAS := Lib.hid hhas'
        clear hhas hhas'
        go_wp2_with fail
        go_roundw
        case rel =>
          refine ⟨k + 1, by omega, by go_num, hbel.alloc hz _, ?_⟩
          have h1 := hcom.out
          rw [hdrop.out] at h1
          show committedS f st = _
          rw [h1, committedL, if_neg (by rw [HHAS.out]; simp)]
        case measure => simp [intOf]; omega
    · have hkn : ¬ (k : Int) < ((3 * f + 1 : Nat) : Int) := by omega
      go_wp2_with fail
      go_ret3
      have hcs : committedS f st = none := by rw [hcom.out, List.drop_of_length_le (by rw [HCL.out]; omega)]; rfl
      exact ⟨.slice none 0 0, .slice none 0 0, by rw [hcs]; rfl, hbel, by rw [hcs]; exact Reads.nil _ _, by rw [hcs]; exact Reads.nil _ _, by simp [blkOf], by simp [blkOf]⟩

end Go.Proofs.YtannckelmojkoaaGreat

/- slot.Clone. -/
namespace Go.Proofs.YtannckelmojkoaaGreat
open Go.RowKit Go.Heap

/-- What Clone leaves: a new block t, and the two lists of votes in new blocks. -/
def ClonePost (w : World) (ap ac : List Value) (f : Nat) (hh : Bool) (v : Value) (e : Ending) (w' : World) : Prop :=
  ∃ t gp gc cp cq, e = .returned (.pointer (some ⟨t, 0, none⟩)) ∧ Below w.heap.size w w' ∧ w.heap.size ≤ gp ∧ gp < gc ∧ gc < t ∧
    w'.heap[t]? = some (.cells #[.int .i64 f, .bool hh, v, .slice (some ⟨gp, 0, none⟩) (3 * f + 1) cp, .slice (some ⟨gc, 0, none⟩) (3 * f + 1) cq] 307 (0, 0)) ∧
    w'.ownsRow w.heap.size 371 3 (.slice (some ⟨gp, 0, none⟩) (3 * f + 1) cp) (3 * f + 1) ap ∧ w'.ownsRow w.heap.size 371 3 (.slice (some ⟨gc, 0, none⟩) (3 * f + 1) cq) (3 * f + 1) ac

set_option maxHeartbeats 3200000 in
set_option maxRecDepth 100000 in
theorem clone_walk {w : World} {s bp bc f : Nat} (hf : f ≤ 4) (hh : Bool) (v : Value) (ao : Option Addr) (n cap : Nat) (hv : v = .slice ao n cap) (ap ac : List Value) (cp cq : Nat) (h1 : ap.length = (3 * f + 1) * 3) (h2 : ac.length = (3 * f + 1) * 3)
    (hs : w.heap[s]? = some (.cells #[.int .i64 f, .bool hh, v, .slice (some ⟨bp, 0, none⟩) (3 * f + 1) cp, .slice (some ⟨bc, 0, none⟩) (3 * f + 1) cq] 307 (0, 0)))
    (_lp : bp < w.heap.size) (lc : bc < w.heap.size) (hp : ∀ W : World, W.heap[bp]? = w.heap[bp]? → ∀ j u, ap[j]? = some u → W.cell? ((⟨bp, 0, none⟩ : Addr).add j) = some u) (hc : ∀ W : World, W.heap[bc]? = w.heap[bc]? → ∀ j u, ac[j]? = some u → W.cell? ((⟨bc, 0, none⟩ : Addr).add j) = some u) (o1 : ∀ u ∈ ap, u.oneCell' = true) (o2 : ∀ u ∈ ac, u.oneCell' = true) :
    Calls Tryz.prog 197 #[.pointer (some ⟨s, 0, none⟩)] w (ClonePost w ap ac f hh v) := by
  obtain ⟨i0, hi, hz0, hz1, hz2⟩ := info_parts Tryz.infoSv
  subst hv
  have c0 : w.cell? ⟨s, 0, none⟩ = some (.int .i64 f) := by rw [block_cell hs]; rfl
  have c1 : w.cell? ⟨s, 1, none⟩ = some (.bool hh) := by rw [block_cell hs]; rfl
  have c2 : w.cell? ⟨s, 2, none⟩ = some (.slice ao n cap) := by rw [block_cell hs]; rfl
  have c3 : w.cell? ⟨s, 3, none⟩ = some (.slice (some ⟨bp, 0, none⟩) (3 * f + 1) cp) := by rw [block_cell hs]; rfl
  have c4 : w.cell? ⟨s, 4, none⟩ = some (.slice (some ⟨bc, 0, none⟩) (3 * f + 1) cq) := by rw [block_cell hs]; rfl
  have ls := block_lt hs
  have HP := Lib.hid hp
  have HC := Lib.hid hc
  clear hp hc
  have O1 := Lib.hid o1
  have O2 := Lib.hid o2
  have HS := Lib.hid hs
  clear hs o1 o2
  have L1 := Lib.hid h1
  have L2 := Lib.hid h2
  clear h1 h2
  go_enter Tryz.func197, Tryz.ntmps197
  go_wp2_with fail
  go_region_held3? (fun w' => w'.cell? ⟨s, 0, none⟩ = some (.int .i64 f) ∧ w'.cell? ⟨s, 1, none⟩ = some (.bool hh) ∧ w'.cell? ⟨s, 2, none⟩ = some (.slice ao n cap) ∧
      w'.cell? ⟨s, 3, none⟩ = some (.slice (some ⟨bp, 0, none⟩) (3 * f + 1) cp) ∧ w'.cell? ⟨s, 4, none⟩ = some (.slice (some ⟨bc, 0, none⟩) (3 * f + 1) cq))
    (first
      | go_keep
      | (go_split_ands
         have hz1 := hgrow.size
         simp only [hs_drew] at hz1
         refine ⟨?_, ?_, ?_, ?_, ?_⟩ <;> (rw [hgrow2.cell_far _ (by show s < w1.heap.size; omega) (by simp [Value.ownBlock])]; assumption))
      | (go_split_ands
         refine ⟨?_, ?_, ?_, ?_, ?_⟩ <;> (rw [hgrow.cell_far _ (by simp; omega) (by simp [Value.ownBlock])]; assumption)))
    (first
      | (refine step_append_lies _ (by rfl) (.const (.slice none 0 0)) (.tmp 18) _ (by rfl) w.heap.size 371 i0 (.agg #[.bool false, .int .i64 0, .slice none 0 0]) 3 40 Tryz.underlying305 hi hz0 hz1 hz2 rfl (by omega) _ 0 [] (by rfl) (World.ownsRow_nil _ _ _ _) ⟨bp, 0, none⟩ (3 * f + 1) cp ap (by rfl) L1.out (HP.out _ rfl) O1.out (by omega) (by unfold maxLen; omega) (by omega) (by simp) w.heap.size (by simp) ?_; intro g1 cap1 w1 hown1 hgrow hat hlt)
      | (refine step_append_lies _ (by rfl) (.const (.slice none 0 0)) (.tmp 23) _ (by rfl) w.heap.size 371 i0 (.agg #[.bool false, .int .i64 0, .slice none 0 0]) 3 40 Tryz.underlying305 hi hz0 hz1 hz2 rfl (by omega) _ 0 [] (by rfl) (World.ownsRow_nil _ _ _ _) ⟨bc, 0, none⟩ (3 * f + 1) cq ac (by rfl) L2.out (HC.out _ (hgrow.block bc (by simp; omega) (by simp [Value.ownBlock]))) O2.out (by omega) (by unfold maxLen; omega) (by omega) (by have := hgrow.size; simp at this; omega) w1.heap.size rfl ?_; intro g2 cap2 w2 hown2 hgrow2 hat2 hlt2))
  have E1 := Lib.hid hown1
  have E2 := Lib.hid hown2
  clear hown1 hown2
  go_wp2
  go_ret
  have hg1 : g1 = w.heap.size := by
    rcases hat with h | h
    · cases h
    · exact h
  have hg2 : g2 = w1.heap.size := by
    rcases hat2 with h | h
    · cases h
    · exact h
  refine ⟨w2.heap.size, g1, g2, cap1, cap2, rfl, ?_, by omega, ?_, ?_, ?_, ?_, ?_⟩
  · have a1 : Below w.heap.size w w1 := ((Below.refl _ _).drew).grown hgrow (Nat.le_refl _) (by intro k hk; cases hk)
    exact (a1.grown hgrow2 a1.size (by intro k hk; cases hk)).alloc (Nat.le_trans a1.size hgrow2.size) _
  · rw [hg2, hg1]; have := hgrow.size; simp only [hs_drew] at this; omega
  · exact hlt2
  · exact heap_alloc_new w2 _
  · have a1 : Upd [] w1 w2 := (Upd.refl _ _).grown hgrow2 (by intro k hk; cases hk)
    have := (owns_upd E1.out a1 (by simp)).alloc (.cells #[.int .i64 f, .bool hh, .slice ao n cap, .slice (some ⟨g1, 0, none⟩) (3 * f + 1) cap1, .slice (some ⟨g2, 0, none⟩) (3 * f + 1) cap2] 307)
    simpa using this
  · have := E2.out.alloc (.cells #[.int .i64 f, .bool hh, .slice ao n cap, .slice (some ⟨g1, 0, none⟩) (3 * f + 1) cap1, .slice (some ⟨g2, 0, none⟩) (3 * f + 1) cap2] 307)
    simpa using this

theorem idx3 (j : Nat) : ∃ i r, r < 3 ∧ j = i * 3 + r := ⟨j / 3, j % 3, Nat.mod_lt _ (by omega), by omega⟩

/-- The cells of a list of votes, as a list. -/
theorem votes_list {w : World} {b : Nat} {vs : List Vt} {D : List Nat} (h : VotesAt w b vs D) :
    ∃ xs : List Value, xs.length = vs.length * 3 ∧ b < w.heap.size ∧ (∀ u ∈ xs, u.oneCell' = true) ∧ (∀ W : World, W.heap[b]? = w.heap[b]? → ∀ j u, xs[j]? = some u → W.cell? ((⟨b, 0, none⟩ : Addr).add j) = some u) ∧
      ∀ i t, vs[i]? = some t → ∃ v, xs[i * 3]? = some (.bool t.has) ∧ xs[i * 3 + 1]? = some (.int .i64 t.sl) ∧ xs[i * 3 + 2]? = some v ∧ Bat w v t.batch ∧ ∀ k ∈ blkOf v, k ∈ D := by
  obtain ⟨arr, a1, a2, a3⟩ := h
  have hget : ∀ j, j < vs.length * 3 → (arr.toList.take (vs.length * 3))[j]? = arr[j]? := by
    intro j hj
    rw [List.getElem?_take, if_pos hj, Array.getElem?_toList]
  have hfa : ∀ i t, vs[i]? = some t → ∃ v, (arr.toList.take (vs.length * 3))[i * 3]? = some (.bool t.has) ∧ (arr.toList.take (vs.length * 3))[i * 3 + 1]? = some (.int .i64 t.sl) ∧ (arr.toList.take (vs.length * 3))[i * 3 + 2]? = some v ∧ Bat w v t.batch ∧ ∀ k ∈ blkOf v, k ∈ D := by
    intro i t hi
    have hil := (List.getElem?_eq_some_iff.1 hi).1
    obtain ⟨v, c1, c2, c3, c4, c5⟩ := a3 i t hi
    exact ⟨v, by rw [hget _ (by omega)]; exact c1, by rw [hget _ (by omega)]; exact c2, by rw [hget _ (by omega)]; exact c3, c4, c5⟩
  refine ⟨arr.toList.take (vs.length * 3), by simp; omega, block_lt a1, ?_, ?_, hfa⟩
  · intro u hu
    obtain ⟨j, hj⟩ := List.getElem?_of_mem hu
    have hjl : j < vs.length * 3 := by
      have := (List.getElem?_eq_some_iff.1 hj).1
      rw [List.length_take] at this
      omega
    obtain ⟨i, r, hr, rfl⟩ := idx3 j
    have hil : i < vs.length := by omega
    obtain ⟨v, c1, c2, c3, c4, _⟩ := hfa i vs[i] (by simp [hil])
    match r, hr with
    | 0, _ => rw [Nat.add_zero, c1] at hj; cases hj; rfl
    | 1, _ => rw [c2] at hj; cases hj; rfl
    | 2, _ =>
      rw [c3] at hj
      cases hj
      obtain ⟨ao, cap, rfl⟩ := bat_form c4
      rfl
  · intro W hW j u hj
    have hjl : j < vs.length * 3 := by
      have := (List.getElem?_eq_some_iff.1 hj).1
      rw [List.length_take] at this
      omega
    rw [addr_add, Nat.zero_add, block_cell (hW.trans a1), ← hget j hjl]
    exact hj

theorem votes_of_own {w w' : World} {B g n cap : Nat} {xs : List Value} {vs : List Vt} {D : List Nat} (hn : vs.length = n) (h : w'.ownsRow B 371 3 (.slice (some ⟨g, 0, none⟩) n cap) n xs) (hu : Upd [] w w')
    (hf : ∀ i t, vs[i]? = some t → ∃ v, xs[i * 3]? = some (.bool t.has) ∧ xs[i * 3 + 1]? = some (.int .i64 t.sl) ∧ xs[i * 3 + 2]? = some v ∧ Bat w v t.batch ∧ ∀ k ∈ blkOf v, k ∈ D) : VotesAt w' g vs D := by
  rcases h.2 with ⟨h', _⟩ | ⟨g', cap', cur, h', hb, hg, hnc, hcm, hcs, htake⟩
  · simp at h'
  · simp only [Value.slice.injEq, Option.some.injEq, Addr.mk.injEq, and_true, true_and] at h'
    obtain ⟨rfl, rfl⟩ := h'
    refine ⟨cur, hg, by rw [hcs, hn]; exact Nat.mul_le_mul_right _ hnc, fun i t hi => ?_⟩
    have hil := (List.getElem?_eq_some_iff.1 hi).1
    obtain ⟨v, c1, c2, c3, c4, c5⟩ := hf i t hi
    have hget : ∀ j, j < n * 3 → cur[j]? = xs[j]? := by
      intro j hj
      rw [← htake, List.getElem?_take, if_pos hj, Array.getElem?_toList]
    exact ⟨v, by rw [hget _ (by omega)]; exact c1, by rw [hget _ (by omega)]; exact c2, by rw [hget _ (by omega)]; exact c3, c4.upd hu (by simp), c5⟩

theorem slot_clone {w : World} {s bp bc cp cq f : Nat} {st : Sl} {D : List Nat} (h : SlotAt w s bp bc cp cq f st D) :
    Calls Tryz.prog 197 #[.pointer (some ⟨s, 0, none⟩)] w fun e w' => ∃ t bp' bc' cp' cq', e = .returned (.pointer (some ⟨t, 0, none⟩)) ∧ Below w.heap.size w w' ∧ w.heap.size ≤ t ∧ w.heap.size ≤ bp' ∧ w.heap.size ≤ bc' ∧ SlotAt w' t bp' bc' cp' cq' f st D := by
  obtain ⟨v, o1, o2, o3⟩ := h.own
  obtain ⟨ao, cap, hv⟩ := bat_form o2
  obtain ⟨xp, p1, p2, p3, p4, p5⟩ := votes_list h.ps
  obtain ⟨xc, c1, c2, c3, c4, c5⟩ := votes_list h.cs
  refine (clone_walk h.f2 st.has v ao st.batch.length cap hv xp xc cp cq (by rw [p1, h.pl]) (by rw [c1, h.cl]) o1 p2 c2 p4 c4 p3 c3).mono ?_
  rintro e w' ⟨t, gp, gc, cp', cq', he, hb, g1, g2, g3, ht, op, oc⟩
  have hu : Upd [] w w' := Upd.of_below hb
  have hlt : ∀ k ∈ D, k < w.heap.size := h.Dw
  refine ⟨t, gp, gc, cp', cq', he, hb, by omega, g1, by omega, ?_⟩
  exact {
    f1 := h.f1, f2 := h.f2
    own := ⟨v, ht, o2.upd hu (by simp), o3⟩
    ps := votes_of_own h.pl op hu p5
    cs := votes_of_own h.cl oc hu c5
    pl := h.pl, cl := h.cl
    sp := by omega, sc := by omega, pc := by omega
    Ds := fun hk => by have := hlt _ hk; omega
    Dp := fun hk => by have := hlt _ hk; omega
    Dc := fun hk => by have := hlt _ hk; omega
    Dw := fun k hk => Nat.lt_of_lt_of_le (hlt k hk) hb.size
    small := h.small }

end Go.Proofs.YtannckelmojkoaaGreat
