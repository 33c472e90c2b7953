/- psephoslaw15.wakes. -/
import Derived.Test.YtdeadekeffficaaInI
namespace Go.Proofs.Ytdeadekeffficaa
open Go.RowKit Go.Heap

/-- An instance in the state st at block i. -/
def AtI (B : Nat) (w0 w : World) (i : Nat) (st : In) (ss : List Res) : Prop := ∃ x : Ins, x.i = i ∧ x.st = st ∧ Own B w0 w (instR x :: ss)

section
variable {B : Nat} {w0 W W' : World} {ss rs : List Res} {x : Ins} {i : Nat} {st : In}

theorem AtI.upd0 (h : AtI B w0 W i st ss) (hu : Upd [] W W') : AtI B w0 W' i st ss := let ⟨x, h1, h2, h3⟩ := h; ⟨x, h1, h2, h3.upd0 hu⟩
theorem AtI.alloc (h : AtI B w0 W i st ss) (o : Obj) : AtI B w0 (W.alloc o) i st ss := h.upd0 ((Upd.refl _ _).alloc o)
theorem AtI.drew (h : AtI B w0 W i st ss) : AtI B w0 W.drew i st ss := h.upd0 (Upd.refl _ _).drew
theorem AtI.below (h : AtI B w0 W i st ss) : Below B w0 W := let ⟨_, _, _, h3⟩ := h; h3.below
theorem AtI.ss_own (h : AtI B w0 W i st ss) : Own B w0 W ss := let ⟨_, _, _, h3⟩ := h; h3.drop

/-- A new block beside it. -/
theorem ai_box (h : AtI B w0 W i st ss) (o : Obj) : AtI B w0 (W.alloc o) i st (blk W.heap.size o :: ss) := let ⟨x, h1, h2, h3⟩ := h; ⟨x, h1, h2, (h3.box o).swap⟩
theorem ai_blk {b : Nat} {o : Obj} (h : AtI B w0 W i st (blk b o :: ss)) : W.heap[b]? = some o := h.ss_own.blk_out
theorem ai_store {b : Nat} {o : Obj} (h : AtI B w0 W i st (blk b o :: ss)) (j : Nat) (v : Value) : AtI B w0 (W.setCell ⟨b, j, none⟩ v) i st (blk b (setIn j v o) :: ss) := let ⟨x, h1, h2, h3⟩ := h; ⟨x, h1, h2, (h3.swap.store j v).swap⟩
theorem ai_drop {r : Res} (h : AtI B w0 W i st (r :: ss)) : AtI B w0 W i st ss := let ⟨x, h1, h2, h3⟩ := h; ⟨x, h1, h2, h3.swap.drop⟩
theorem ai_perm {ss' : List Res} (h : AtI B w0 W i st ss) (hp : ss.Perm ss') : AtI B w0 W i st ss' := let ⟨x, h1, h2, h3⟩ := h; ⟨x, h1, h2, h3.perm (hp.cons _)⟩
theorem blk_ne {a b : Nat} {o p : Obj} (h : Own B w0 W (blk a o :: blk b p :: rs)) : a ≠ b := fun e => (List.pairwise_cons.1 h.apart).1 (blk b p) (by simp) a (by simp [blk]) (by simp [blk, e])
theorem ai_to (h : AtI B w0 W i st ss) (hb : Below W.heap.size W W') : AtI B w0 W' i st ss := h.upd0 (Upd.of_below hb)
theorem ai_red {v : Value} {sz n : Nat} {xs : List Value} (h : AtI B w0 W i st ss) (hr : Reads W' v sz n xs) (hu : Upd [] W W') (hk : ∀ k ∈ blkIf n v, W.heap.size ≤ k) : AtI B w0 W' i st (redR v sz n xs :: ss) :=
  let ⟨x, h1, h2, h3⟩ := h; ⟨x, h1, h2, ((h3.upd0 hu).red hr (fun k hkk => h3.fresh (hk k hkk))).swap⟩

theorem ai_new (f : Nat) (num ahead : Int) (hf1 : 1 ≤ f) (hf2 : f ≤ 4) (hn1 : 0 ≤ num) (hn2 : num ≤ f) (ha1 : 1 ≤ ahead) (ha2 : ahead ≤ 16) (h : Own B w0 W ss) :
    Calls Try.prog 34 #[.int .i64 f, .int .i64 num, .int .i64 ahead] W fun e w' => ∃ i, e = .returned (.tuple #[.pointer (some ⟨i, 0, none⟩), .int .i64 0]) ∧ AtI B w0 w' i (newI f num ahead) ss := by
  refine (ins_new f num ahead hf1 hf2 hn1 hn2 ha1 ha2 h).mono ?_
  rintro e w' ⟨x, he, hs, ho⟩
  exact ⟨x.i, he, x, rfl, hs, ho⟩

theorem ai_vote (h : AtI B w0 W i st ss) (kind seq node sl : Int) (v : Value) (l : List Rq) (hb : Bat W v l) (hn : l.length ≤ 100000) :
    Calls Try.prog 35 #[.pointer (some ⟨i, 0, none⟩), .int .i64 kind, .int .i64 seq, .int .i64 node, .int .i64 sl, v] W fun e w' => e = .returned (.bool (voteB st kind seq node)) ∧ AtI B w0 w' i (voteI st kind seq node sl l) ss := by
  obtain ⟨x, h1, rfl, h3⟩ := h
  exact ins_vote h3 h1 kind seq node sl v l hb hn

theorem ai_pre (h : AtI B w0 W i st ss) (seq : Int) (v : Value) (l : List Rq) (hb : Bat W v l) (hn : l.length ≤ 100000) :
    Calls Try.prog 40 #[.pointer (some ⟨i, 0, none⟩), .int .i64 seq, v] W fun e w' => e = .returned (.bool (preB st seq)) ∧ AtI B w0 w' i (preI st seq l) ss := by
  obtain ⟨x, h1, rfl, h3⟩ := h
  exact ins_pre h3 h1 seq v l hb hn

theorem ai_done (h : AtI B w0 W i st ss) : Calls Try.prog 37 #[.pointer (some ⟨i, 0, none⟩)] W fun e w' => e = .returned (.int .i64 (doneI st)) ∧ W = w' := by
  obtain ⟨x, h1, rfl, h3⟩ := h
  exact ins_done h3 h1

theorem ai_next (h : AtI B w0 W i st ss) : Calls Try.prog 52 #[.pointer (some ⟨i, 0, none⟩)] W fun e w' => e = .returned (.int .i64 (nextI st)) ∧ Upd [] W w' := by
  obtain ⟨x, h1, rfl, h3⟩ := h
  exact ins_next h3 h1

theorem ai_view (h : AtI B w0 W i st ss) : Calls Try.prog 50 #[.pointer (some ⟨i, 0, none⟩)] W fun e w' => e = .returned (.int .i64 st.view) ∧ W = w' := by
  obtain ⟨x, h1, rfl, h3⟩ := h
  exact ins_view h3 h1

theorem ai_installed (h : AtI B w0 W i st ss) : Calls Try.prog 51 #[.pointer (some ⟨i, 0, none⟩)] W fun e w' => e = .returned (.bool st.on) ∧ W = w' := by
  obtain ⟨x, h1, rfl, h3⟩ := h
  exact ins_installed h3 h1

theorem ai_chosen (h : AtI B w0 W i st ss) (seq : Int) : Calls Try.prog 81 #[.pointer (some ⟨i, 0, none⟩), .int .i64 seq] W (ChosenP W (chosenI st seq)) := by
  obtain ⟨x, h1, rfl, h3⟩ := h
  exact ins_chosen h3 h1 seq

/-- A certificate that was told, in new memory; or none. -/
def Told (W w' : World) (r : Option Cp) (c : Ct) : Prop :=
  c.cp = r.getD noCp ∧ (c.rs.length ≤ 100000 ∧ c.vs.length ≤ 100000) ∧ Bat w' c.vb c.rs ∧ Vts w' c.vv c.vs ∧ (∀ k ∈ blkOf c.vb, W.heap.size ≤ k) ∧ ∀ k ∈ blkOf c.vv, W.heap.size ≤ k

theorem told_form {r : Option Cp} {c : Ct} {p : Cp} (h : Told W W' r c) (hp : r.getD noCp = p) : ∃ ao cap co cav, c = ⟨p.view, p.inst, p.seq, .slice ao p.rs.length cap, .slice co p.vs.length cav, p.rs, p.vs⟩ ∧ (p.rs.length ≤ 100000 ∧ p.vs.length ≤ 100000) ∧
    Bat W' (.slice ao p.rs.length cap) p.rs ∧ Vts W' (.slice co p.vs.length cav) p.vs ∧ (∀ k ∈ blkOf (.slice ao p.rs.length cap), W.heap.size ≤ k) ∧ ∀ k ∈ blkOf (.slice co p.vs.length cav), W.heap.size ≤ k := by
  subst hp
  obtain ⟨view, inst, seq, vb, vv, rs, vs⟩ := c
  obtain ⟨h1, h2, h3, h4, h5, h6⟩ := h
  simp only [Ct.cp] at h1 h2 h3 h4 h5 h6
  rw [← h1]
  obtain ⟨ao, cap, rfl⟩ := bat_form h3
  obtain ⟨co, cav, rfl⟩ := vts_form h4
  exact ⟨ao, cap, co, cav, rfl, h2, h3, h4, h5, h6⟩

theorem ai_commits (h : AtI B w0 W i st ss) (seq : Int) : Calls Try.prog 36 #[.pointer (some ⟨i, 0, none⟩), .int .i64 seq] W fun e w' => ∃ c : Ct, e = .returned (.tuple #[ctAgg c, .bool (commI st seq).isSome]) ∧ Told W w' (commI st seq) c ∧ AtI B w0 w' i (commitsI st seq) ss := by
  obtain ⟨x, h1, rfl, h3⟩ := h
  refine (ins_commits h3 h1 seq).mono ?_
  rintro e w' ⟨c, he, hc, hn, hb, hv, n1, n2, x', e1, e2, e3⟩
  exact ⟨c, he, ⟨hc, hn, hb, hv, n1, n2⟩, x', e1, e2, e3.drop.drop⟩

end

def wk : Nat → In
  | 0 => newI 1 0 4
  | k + 1 => voteI (wk k) 5 1 k 5 [rq 0 1]

theorem wk_end : commI (wk 3) 1 = some ⟨0, 0, 1, [rq 0 1], [(0, 5), (1, 5), (2, 5)]⟩ := by decide +kernel
theorem wk_done : doneI (commitsI (wk 3) 1) = 1 := by decide +kernel

set_option maxHeartbeats 1000000 in
theorem wakes15_any (w : World) : Calls Try.prog 38 #[] w fun e w' => e = .returned (.bool true) ∧ Below w.heap.size w w' := by
  go_enter Try.func38, Try.ntmps38
  go_wp2_with fail
  refine (ai_new 1 0 4 (by omega) (by omega) (by omega) (by omega) (by omega) (by omega) (Own.start (Below.refl w.heap.size w) (Nat.le_refl _))).mono ?_
  rintro e w1 ⟨i, rfl, h1⟩
  have H1 := Lib.hid h1
  clear h1
  go_wp2_with fail
  go_loopw [3] (fun n wr => ∃ k : Nat, k ≤ 3 ∧ n = .int .i64 k ∧ Hid (AtI w.heap.size w wr i (wk k) [])) (fun n _ => 3 - (intOf n).toNat)
  case atStart => exact ⟨0, by omega, rfl, H1⟩
  case round =>
    clear H1
    obtain ⟨k, hk, rfl, H1⟩ := hrel
    by_cases hlt : k < 3
    · have hkI : (k : Int) < 3 := by omega
      have H2 := Lib.hid (ai_vote (H1.out.alloc (rqObj 0 1)) 5 1 k 5 (sl1 wr.heap.size) [rq 0 1] (bat_one (heap_alloc_new wr _)) (by simp))
      go_wp2_with fail
      refine H2.out.mono ?_
      rintro e w2 ⟨rfl, h2⟩
      have H3 := Lib.hid h2
      clear h2
      go_wp2_with fail
      go_roundw
      case rel => exact ⟨k + 1, by omega, by go_num, H3⟩
      case measure => simp [intOf]; omega
    · have hk3 : k = 3 := by omega
      subst hk3
      have H2 := Lib.hid (ai_commits H1.out 1)
      have WD := Lib.hid wk_done
      go_wp2_with fail
      refine H2.out.mono ?_
      rintro e w2 ⟨c, rfl, hc, h2⟩
      rw [wk_end] at hc
      rw [wk_end]
      obtain ⟨ao, cap, co, cav, rfl, -⟩ := told_form hc rfl
      have H3 := Lib.hid (h2.alloc (ctO 0 0 1 (.slice ao 1 cap) (.slice co 3 cav)))
      clear h2 hc H2
      go_wp2_with fail
      refine (ai_done H3.out).mono ?_
      rintro e w' ⟨rfl, rfl⟩
      rw [WD.out]
      go_wp2_with fail
      go_ret
      exact ⟨rfl, H3.out.below⟩

end Go.Proofs.Ytdeadekeffficaa
