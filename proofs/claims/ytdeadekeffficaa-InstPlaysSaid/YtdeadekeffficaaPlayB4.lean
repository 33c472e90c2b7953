/- Parts of the proof, one behind the other. -/
import Derived.Test.YtdeadekeffficaaPlayB3

/- An instance and the document's one, side by side: the calls of each. -/
namespace Go.Proofs.Ytdeadekeffficaa
open Go.RowKit Go.Heap

/-- An instance in the state st at block i, the document's one in the state sd at block p. -/
def AtB (B : Nat) (w0 w : World) (i : Nat) (st : In) (p : Nat) (sd : In) (ss : List Res) : Prop := ∃ x h m, Ins.i x = i ∧ Ins.st x = st ∧ Own B w0 w (instR x :: docB p h m :: docI h m sd :: ss)

section
variable {B : Nat} {w0 W W' : World} {ss : List Res} {i p : Nat} {st sd : In} {r : Res}

theorem AtB.upd0 (h : AtB B w0 W i st p sd ss) (hu : Upd [] W W') : AtB B w0 W' i st p sd ss := let ⟨x, a, m, e1, e2, o⟩ := h; ⟨x, a, m, e1, e2, o.upd0 hu⟩
theorem AtB.alloc (h : AtB B w0 W i st p sd ss) (o : Obj) : AtB B w0 (W.alloc o) i st p sd ss := h.upd0 ((Upd.refl _ _).alloc o)
theorem AtB.drew (h : AtB B w0 W i st p sd ss) : AtB B w0 W.drew i st p sd ss := h.upd0 (Upd.refl _ _).drew
theorem AtB.below (h : AtB B w0 W i st p sd ss) : Below B w0 W := let ⟨_, _, _, _, _, o⟩ := h; o.below
theorem AtB.ss_own (h : AtB B w0 W i st p sd ss) : Own B w0 W ss := let ⟨_, _, _, _, _, o⟩ := h; o.drop.drop.drop
theorem AtB.fresh (h : AtB B w0 W i st p sd ss) {k : Nat} (hk : W.heap.size ≤ k) : k ∉ Ms ss := h.ss_own.fresh hk
theorem ab_new (h : AtB B w0 W i st p sd ss) (f : ∀ rs, Own B w0 W rs → Own B w0 W' (r :: rs)) : AtB B w0 W' i st p sd (r :: ss) := let ⟨x, a, m, e1, e2, o⟩ := h; ⟨x, a, m, e1, e2, (f _ o).perm3⟩
theorem ab_box (h : AtB B w0 W i st p sd ss) (o : Obj) : AtB B w0 (W.alloc o) i st p sd (blk W.heap.size o :: ss) := ab_new h fun _ q => q.box o
theorem ab_perm {ss' : List Res} (h : AtB B w0 W i st p sd ss) (hp : ss.Perm ss') : AtB B w0 W i st p sd ss' := let ⟨x, a, m, e1, e2, o⟩ := h; ⟨x, a, m, e1, e2, o.perm (((hp.cons _).cons _).cons _)⟩
theorem ab_drop (h : AtB B w0 W i st p sd (r :: ss)) : AtB B w0 W i st p sd ss := let ⟨x, a, m, e1, e2, o⟩ := h; ⟨x, a, m, e1, e2, o.perm3'.drop⟩
/-- The first one beside them turns. -/
theorem ab_turn {r' : Res} (h : AtB B w0 W i st p sd (r :: ss)) (f : ∀ rs, Own B w0 W (r :: rs) → Own B w0 W' (r' :: rs)) : AtB B w0 W' i st p sd (r' :: ss) := let ⟨x, a, m, e1, e2, o⟩ := h; ⟨x, a, m, e1, e2, (f _ o.perm3').perm3⟩

theorem ab_x (h : AtB B w0 W i st p sd ss) : ∃ a m, AtI B w0 W i st (docB p a m :: docI a m sd :: ss) := let ⟨x, a, m, e1, e2, o⟩ := h; ⟨a, m, x, e1, e2, o⟩
theorem ab_ofx {a : Nat → Value} {m : Nat → Nat → Value} (h : AtI B w0 W i st (docB p a m :: docI a m sd :: ss)) : AtB B w0 W i st p sd ss := let ⟨x, e1, e2, o⟩ := h; ⟨x, a, m, e1, e2, o⟩
theorem ab_d (h : AtB B w0 W i st p sd ss) : ∃ x, Ins.i x = i ∧ Ins.st x = st ∧ AtD B w0 W p sd (instR x :: ss) := let ⟨x, a, m, e1, e2, o⟩ := h; ⟨x, e1, e2, a, m, o.rot'⟩
theorem ab_ofd {x : Ins} (e1 : Ins.i x = i) (e2 : Ins.st x = st) (h : AtD B w0 W p sd (instR x :: ss)) : AtB B w0 W i st p sd ss := let ⟨a, m, o⟩ := h; ⟨x, a, m, e1, e2, o.rot⟩

/-! ### The instance -/

theorem ab_pre (h : AtB B w0 W i st p sd ss) (seq : Int) (v : Value) (l : List Rq) (hb : Bat W v l) (hn : l.length ≤ 100000) :
    Calls Try.prog 40 #[.pointer (some ⟨i, 0, none⟩), .int .i64 seq, v] W fun e w' => e = .returned (.bool (preB st seq)) ∧ AtB B w0 w' i (preI st seq l) p sd ss := by
  obtain ⟨a, m, hx⟩ := ab_x h
  refine (ai_pre hx seq v l hb hn).mono ?_
  rintro e w' ⟨he, h2⟩
  exact ⟨he, ab_ofx h2⟩
theorem ab_vote (h : AtB B w0 W i st p sd ss) (kind seq node sl : Int) (v : Value) (l : List Rq) (hb : Bat W v l) (hn : l.length ≤ 100000) :
    Calls Try.prog 35 #[.pointer (some ⟨i, 0, none⟩), .int .i64 kind, .int .i64 seq, .int .i64 node, .int .i64 sl, v] W fun e w' => e = .returned (.bool (voteB st kind seq node)) ∧ AtB B w0 w' i (voteI st kind seq node sl l) p sd ss := by
  obtain ⟨a, m, hx⟩ := ab_x h
  refine (ai_vote hx kind seq node sl v l hb hn).mono ?_
  rintro e w' ⟨he, h2⟩
  exact ⟨he, ab_ofx h2⟩
theorem ab_leave (h : AtB B w0 W i st p sd ss) (v : Int) : Calls Try.prog 41 #[.pointer (some ⟨i, 0, none⟩), .int .i64 v] W fun e w' => e = .returned (.bool (leaveB st v)) ∧ AtB B w0 w' i (leaveI st v) p sd ss := by
  obtain ⟨a, m, hx⟩ := ab_x h
  refine (ai_leave hx v).mono ?_
  rintro e w' ⟨he, h2⟩
  exact ⟨he, ab_ofx h2⟩
theorem ab_adopt (h : AtB B w0 W i st p sd ss) (c : Ct) (hb : Bat W c.vb c.rs) (hbn : c.rs.length ≤ 100000) (hv : Vts W c.vv c.vs) (hvn : c.vs.length ≤ 100000) :
    Calls Try.prog 39 #[.pointer (some ⟨i, 0, none⟩), ctAgg c] W fun e w' => e = .returned (.bool (adoptB st c.cp)) ∧ AtB B w0 w' i (adoptI st c.cp) p sd ss := by
  obtain ⟨a, m, hx⟩ := ab_x h
  refine (ai_adopt hx c hb hbn hv hvn).mono ?_
  rintro e w' ⟨he, h2⟩
  exact ⟨he, ab_ofx h2⟩

/-- A certificate that was told: its parts lie beside. -/
def ToldB (B : Nat) (w0 : World) (i p : Nat) (r : Option Cp) (st sd : In) (ss : List Res) (e : Ending) (w' : World) : Prop :=
  ∃ c : Ct, e = .returned (.tuple #[ctAgg c, .bool r.isSome]) ∧ c.cp = r.getD noCp ∧ (c.rs.length ≤ 100000 ∧ c.vs.length ≤ 100000) ∧ AtB B w0 w' i st p sd (votR c.vv c.vs :: batR c.vb c.rs :: ss)

theorem told_perm {r1 r2 r3 r4 r0 : Res} (h : Own B w0 W (r0 :: r1 :: r2 :: r3 :: r4 :: ss)) : Own B w0 W (r0 :: r3 :: r4 :: r1 :: r2 :: ss) := h.perm (((List.perm_append_comm (l₁ := [r1, r2]) (l₂ := [r3, r4])).append_right ss).cons r0)

theorem ab_prepared (h : AtB B w0 W i st p sd ss) (seq : Int) : Calls Try.prog 45 #[.pointer (some ⟨i, 0, none⟩), .int .i64 seq] W (ToldB B w0 i p (prepI st seq) (preparedI st seq) sd ss) := by
  obtain ⟨a, m, hx⟩ := ab_x h
  refine (ai_prepared2 hx seq).mono ?_
  rintro e w' ⟨c, he, ⟨t1, t2, -⟩, x, e1, e2, o⟩
  exact ⟨c, he, t1, t2, x, a, m, e1, e2, told_perm o⟩
theorem ab_commits (h : AtB B w0 W i st p sd ss) (seq : Int) : Calls Try.prog 36 #[.pointer (some ⟨i, 0, none⟩), .int .i64 seq] W (ToldB B w0 i p (commI st seq) (commitsI st seq) sd ss) := by
  obtain ⟨a, m, hx⟩ := ab_x h
  refine (ai_commits2 hx seq).mono ?_
  rintro e w' ⟨c, he, ⟨t1, t2, -⟩, x, e1, e2, o⟩
  exact ⟨c, he, t1, t2, x, a, m, e1, e2, told_perm o⟩

/-! ### The document's -/

theorem ab_dpre {v : Value} {l : List Rq} (h : AtB B w0 W i st p sd (batR v l :: ss)) (seq : Int) (hn : l.length ≤ 100000) :
    Calls Try.prog 70 #[.pointer (some ⟨p, 0, none⟩), .int .i64 seq, v] W fun e w' => e = .returned (.bool (preB sd seq)) ∧ AtB B w0 w' i st p (preI sd seq l) ss := by
  obtain ⟨x, e1, e2, hx⟩ := ab_d h
  refine (ad_pre (ad_perm hx (.swap _ _ _)) seq hn).mono ?_
  rintro e w' ⟨he, h2⟩
  exact ⟨he, ab_ofd e1 e2 h2⟩
theorem ab_dvote {v : Value} {l : List Rq} (h : AtB B w0 W i st p sd (batR v l :: ss)) (kind seq node sl : Int) (hn : l.length ≤ 100000) :
    Calls Try.prog 71 #[.pointer (some ⟨p, 0, none⟩), .int .i64 kind, .int .i64 seq, .int .i64 node, .int .i64 sl, v] W fun e w' => e = .returned (.bool (voteB sd kind seq node)) ∧ AtB B w0 w' i st p (voteI sd kind seq node sl l) ss := by
  obtain ⟨x, e1, e2, hx⟩ := ab_d h
  refine (ad_vote (ad_perm hx (.swap _ _ _)) kind seq node sl hn).mono ?_
  rintro e w' ⟨he, h2⟩
  exact ⟨he, ab_ofd e1 e2 h2⟩
theorem ab_dleave (h : AtB B w0 W i st p sd ss) (v : Int) :
    Calls Try.prog 76 #[.pointer (some ⟨p, 0, none⟩), .int .i64 v] W fun e w' => e = .returned (.bool (leaveB sd v)) ∧ AtB B w0 w' i st p (leaveI sd v) ss := by
  obtain ⟨x, e1, e2, hx⟩ := ab_d h
  refine (ad_leave hx v).mono ?_
  rintro e w' ⟨he, h2⟩
  exact ⟨he, ab_ofd e1 e2 h2⟩
theorem ab_dadopt (c : Ct) (h : AtB B w0 W i st p sd (batR c.vb c.rs :: votR c.vv c.vs :: ss)) (n1 : c.rs.length ≤ 100000) (n2 : c.vs.length ≤ 100000) :
    Calls Try.prog 75 #[.pointer (some ⟨p, 0, none⟩), ctAgg c] W fun e w' => e = .returned (.bool (adoptB sd c.cp)) ∧ AtB B w0 w' i st p (adoptI sd c.cp) ss := by
  obtain ⟨x, e1, e2, hx⟩ := ab_d h
  refine (ad_adopt c (ad_perm hx ((List.Perm.swap _ _ _).trans ((List.Perm.swap _ _ _).cons _))) n1 n2).mono ?_
  rintro e w' ⟨he, h2⟩
  exact ⟨he, ab_ofd e1 e2 h2⟩
theorem ab_dinstall {v : Value} {bs : List (List Rq)} (h : AtB B w0 W i st p sd (bsR v bs :: ss)) (hbn : ∀ b ∈ bs, b.length ≤ 100000) :
    Calls Try.prog 77 #[.pointer (some ⟨p, 0, none⟩), v] W fun e w' => e = .returned (.bool (instB sd bs.length)) ∧ AtB B w0 w' i st p (installI sd bs) ss := by
  obtain ⟨x, e1, e2, hx⟩ := ab_d h
  refine (ad_install (ad_perm hx (.swap _ _ _)) hbn).mono ?_
  rintro e w' ⟨he, h2⟩
  exact ⟨he, ab_ofd e1 e2 h2⟩

/-- What the document tells: its parts can be read. -/
def ToldD (B : Nat) (w0 : World) (i p : Nat) (r : Option Cp) (st sd : In) (ss : List Res) (e : Ending) (w' : World) : Prop :=
  ∃ c : Ct, e = .returned (.tuple #[ctAgg c, .bool r.isSome]) ∧ c.cp = r.getD noCp ∧ (c.rs.length ≤ 100000 ∧ c.vs.length ≤ 100000) ∧ Bat w' c.vb c.rs ∧ Vts w' c.vv c.vs ∧ AtB B w0 w' i st p sd ss

theorem ab_dprepared (h : AtB B w0 W i st p sd ss) (seq : Int) : Calls Try.prog 72 #[.pointer (some ⟨p, 0, none⟩), .int .i64 seq] W (ToldD B w0 i p (prepI sd seq) st (preparedI sd seq) ss) := by
  obtain ⟨x, e1, e2, hx⟩ := ab_d h
  refine (ad_prepared hx seq).mono ?_
  rintro e w' ⟨c, he, t1, t2, t3, t4, h2⟩
  exact ⟨c, he, t1, t2, t3, t4, ab_ofd e1 e2 h2⟩
theorem ab_dcommits (h : AtB B w0 W i st p sd ss) (seq : Int) : Calls Try.prog 73 #[.pointer (some ⟨p, 0, none⟩), .int .i64 seq] W (ToldD B w0 i p (commI sd seq) st (commitsI sd seq) ss) := by
  obtain ⟨x, e1, e2, hx⟩ := ab_d h
  refine (ad_commits hx seq).mono ?_
  rintro e w' ⟨c, he, t1, t2, t3, t4, h2⟩
  exact ⟨c, he, t1, t2, t3, t4, ab_ofd e1 e2 h2⟩

/-! ### What lies beside -/

theorem ab_cp {v : Value} {l : List Rq} (h : AtB B w0 W i st p sd ss) (hu : Upd [] W W') (ho : W'.ownsRow W.heap.size 32 6 v l.length (rqsCells l)) : AtB B w0 W' i st p sd (cpR v l :: ss) :=
  ab_new h fun rs q => q.new hu ⟨[], ⟨⟨ho.1, ho.2.imp id fun ⟨g, cap, cur, e, hb, hg⟩ => ⟨g, cap, cur, e, Nat.zero_le _, hg⟩⟩, rfl⟩, by simp, fun k hk => Nat.lt_of_lt_of_le (q.lt k hk) hu.size⟩ (fun k hk => by
    rcases ho.2 with ⟨rfl, _⟩ | ⟨g, cap, cur, rfl, hb, _⟩
    · simp [cpR, blkOf] at hk
    · simp [cpR, blkOf] at hk; omega)

theorem ab_bat {v : Value} {l : List Rq} (h : AtB B w0 W i st p sd ss) (hu : Upd [] W W') (ho : W'.ownsRow W.heap.size 32 6 v l.length (rqsCells l)) : AtB B w0 W' i st p sd (batR v l :: ss) :=
  ab_new h fun rs q => own_batR (q.upd0 hu) (own_reads ho) (fun k hk => by
    refine q.fresh ?_
    rcases ho.2 with ⟨rfl, _⟩ | ⟨g, cap, cur, rfl, hb, _⟩
    · have := blkIf_sub hk; simp [blkOf] at this
    · have := blkIf_sub hk; simp [blkOf] at this; omega)

/-- psephoslaw15.Act. -/
structure A7 where
  act : Int
  seq : Int
  kind : Int
  node : Int
  sl : Int
  which : Int
  view : Int
abbrev a7Agg (a : A7) : Value := .agg #[.int .i64 a.act, .int .i64 a.seq, .int .i64 a.kind, .int .i64 a.node, .int .i64 a.sl, .int .i64 a.which, .int .i64 a.view]
abbrev a7O (a : A7) : Obj := .cells #[.int .i64 a.act, .int .i64 a.seq, .int .i64 a.kind, .int .i64 a.node, .int .i64 a.sl, .int .i64 a.which, .int .i64 a.view] 89 (0, 0)
theorem a7_box {w : World} {b : Nat} {a : A7} (h : w.heap[b]? = some (a7O a)) : w.cell? ⟨b, 0, none⟩ = some (.int .i64 a.act) ∧ w.cell? ⟨b, 1, none⟩ = some (.int .i64 a.seq) ∧ w.cell? ⟨b, 2, none⟩ = some (.int .i64 a.kind) ∧
    w.cell? ⟨b, 3, none⟩ = some (.int .i64 a.node) ∧ w.cell? ⟨b, 4, none⟩ = some (.int .i64 a.sl) ∧ w.cell? ⟨b, 5, none⟩ = some (.int .i64 a.which) ∧ w.cell? ⟨b, 6, none⟩ = some (.int .i64 a.view) :=
  ⟨by rw [block_cell h]; rfl, by rw [block_cell h]; rfl, by rw [block_cell h]; rfl, by rw [block_cell h]; rfl, by rw [block_cell h]; rfl, by rw [block_cell h]; rfl, by rw [block_cell h]; rfl⟩

/-- The batches of an act that installs. -/
def btsOf (a : A7) (n : Nat) : List (List Rq) := (List.range n).map fun (k : Nat) => bt (IntKind.i64.wrap (a.which + (k : Int)))

/-- What an act does to a state. -/
def stepI (st : In) (a : A7) : In :=
  let k := a.act % 15
  if k < 3 then preI st a.seq (bt a.which)
  else if k < 10 then voteI st a.kind a.seq a.node a.sl (bt a.which)
  else if k = 10 then preparedI st a.seq
  else if k = 11 then commitsI st a.seq
  else if k = 12 then adoptI st ⟨a.view, a.kind, a.seq, bt a.which, [(1, a.sl)]⟩
  else if k = 13 then leaveI st a.view
  else installI st (btsOf a (a.seq % 19).toNat)

end
end Go.Proofs.Ytdeadekeffficaa

/- The document's instance: Next, Used. -/
namespace Go.Proofs.Ytdeadekeffficaa
open Go.RowKit Go.Heap

set_option maxHeartbeats 1000000 in
set_option maxRecDepth 100000 in
theorem rhas_any (v : Value) (l : List Rq) (r : Rq) (w : World) (hn : l.length ≤ 100000) (h : Bat w v l) :
    Calls Try.prog 89 #[v, .agg #[.int .i64 r.client, .int .i64 r.time, .int .i64 r.kind, .int .i64 r.key, .int .i64 r.val, .int .i64 r.sl]] w fun e w' => e = .returned (.bool (decide (r ∈ l))) ∧ Upd [] w w' := by
  obtain ⟨ao, cap, rfl, h1, h2, h3, h4, h5⟩ := h
  clear h1 h2 h3 h4
  have H5 := Lib.hid h5
  clear h5
  have H0 := Lib.hid ((Own.start (Below.refl w.heap.size w) (Nat.le_refl _)).box (rqBox r))
  go_enter Try.func89, Try.ntmps89
  go_wp2_with fail
  go_loopw [5] (fun i wr => ∃ k : Nat, k ≤ l.length ∧ i = .int .i64 k ∧ Hid (NoneIn r l k) ∧ Hid (Own w.heap.size w wr [blk w.heap.size (rqBox r)])) (fun i _ => l.length - (intOf i).toNat)
  case atStart => exact ⟨0, by omega, rfl, Lib.hid (by intro j _ hj; omega), H0⟩
  case round =>
    clear H0
    obtain ⟨k, hk, rfl, HN, H1⟩ := hrel
    by_cases hlt : k < l.length
    · have hkI : (k : Int) < (l.length : Int) := by omega
      obtain ⟨b, o, rfl, hbs, hc⟩ := H5.out (by omega)
      obtain ⟨q0, q1, q2, q3, q4, q5⟩ := bat_cells (cells_below H1.out.below hbs hc) k l[k] (by simp)
      clear hc
      have hbx := H1.out.blk_out
      obtain ⟨p0, p1, p2, p3, p4, p5⟩ := rq_cells hbx
      have hlb := block_lt hbx
      have hz := H1.out.below.size
      clear hbx
      by_cases he : l[k] = r
      · have heq : ∀ wx, (Op.equalIn 10000 32 (rqAgg l[k]) (rqAgg r)).run Try.prog wx = .ok true wx := fun wx => by rw [run_equal_req]; simp [he]
        have HE := Lib.hid he
        clear he
        unfold rqAgg at heq
        have hgd := Try.guardReq
        go_wp2_with fail
        go_quiet (fail)
        go_wp2_with fail
        go_ret
        refine ⟨ret_bool ?_, Upd.of_below (H1.out.upd0 ((Upd.refl _ _).drewN _)).below⟩
        symm
        rw [decide_eq_true_iff, ← HE.out]
        exact List.getElem_mem hlt
      · have heq : ∀ wx, (Op.equalIn 10000 32 (rqAgg l[k]) (rqAgg r)).run Try.prog wx = .ok false wx := fun wx => by rw [run_equal_req]; simp [he]
        have HE := Lib.hid he
        clear he
        unfold rqAgg at heq
        have hgd := Try.guardReq
        go_wp2_with fail
        go_quiet (fail)
        go_wp2_with fail
        go_roundw
        case rel =>
          refine ⟨k + 1, by omega, by go_num, Lib.hid (fun j hj hjk => ?_), Lib.hid (H1.out.upd0 ((Upd.refl _ _).drewN _))⟩
          by_cases e : j = k
          · subst e; exact HE.out
          · exact HN.out j hj (by omega)
        case measure => simp [intOf]; omega
    · have hkl : k = l.length := by omega
      subst hkl
      have hkI : ¬ (l.length : Int) < (l.length : Int) := by omega
      go_wp2_with fail
      go_ret
      refine ⟨ret_bool ?_, Upd.of_below H1.out.below⟩
      symm
      rw [decide_eq_false_iff_not]
      intro hm
      obtain ⟨j, hj, e⟩ := List.getElem_of_mem hm
      exact HN.out j hj hj e

theorem lastHas_app : ∀ (l : List Pl) (p : Pl), lastHas (l ++ [p]) = if p.sl.has then l.length + 1 else lastHas l
  | [], p => by cases h : p.sl.has <;> simp [lastHas, h]
  | q :: l, p => by
    have ih := lastHas_app l p
    rw [List.cons_append, lastHas, ih]
    cases h : p.sl.has
    · simp [lastHas]
    · simp

section
variable {B : Nat} {w0 w W W' : World} {ss rs : List Res} {p : Nat} {st : In} {h : Nat → Value} {m : Nat → Nat → Value} {D : List Nat}

set_option maxHeartbeats 1000000 in
theorem ad_next (hw : AtD B w0 W p st ss) : Calls Try.prog 79 #[.pointer (some ⟨p, 0, none⟩)] W fun e w' => e = .returned (.int .i64 (nextI st)) ∧ W = w' := by
  obtain ⟨h', m, D, h3, hd⟩ := ad_docI hw
  have hb := h3.head
  have HN := Lib.hid hd.n
  have HC := Lib.hid (fun n k hn hk => (db_slot hb hd n k hn hk).1)
  have hlt := (docB_at hb).1
  clear hw h3 hd hb
  go_enter Try.func79, Try.ntmps79
  go_wp2_with fail
  go_loop [3, 4] (fun x n => ∃ k : Nat, k ≤ 16 ∧ n = .int .i64 ((k + 1 : Nat) : Int) ∧ x = .int .i64 ((lastHas (st.l.take k) + 1 : Nat) : Int)) (fun _ n => 17 - (intOf n).toNat)
  case atStart => exact ⟨0, by omega, rfl, by simp [lastHas]⟩
  case round =>
    obtain ⟨k, hk, rfl, rfl⟩ := hrel
    have hle : lastHas (st.l.take k) ≤ 16 := by
      have : ∀ l : List Pl, lastHas l ≤ l.length := fun l => by
        induction l with
        | nil => simp [lastHas]
        | cons q l ih => simp only [lastHas]; split <;> (try split) <;> simp <;> omega
      have h1 := this (st.l.take k)
      rw [List.length_take] at h1
      omega
    by_cases hlt16 : k < 16
    · have hkl : k < st.l.length := by rw [HN.out]; exact hlt16
      have cd := HC.out (k + 1) k rfl hkl
      have htk : st.l.take (k + 1) = st.l.take k ++ [st.l[k]] := by rw [List.take_add_one, List.getElem?_eq_getElem hkl]; rfl
      have hla := lastHas_app (st.l.take k) st.l[k]
      rw [← htk, List.length_take, Nat.min_eq_left (by omega)] at hla
      have HLA := Lib.hid hla
      clear hla htk
      generalize hnn : k + 1 = n at *
      have hn0 : (0 : Int) ≤ (n : Int) := by omega
      have hn17 : (n : Int) ≤ 16 := by omega
      have hn18 : (n : Int) < 17 := by omega
      cases hdn : st.l[k].sl.has
      · rw [hdn] at cd HLA
        clear hdn
        go_wp2_with fail
        go_round
        case rel => exact ⟨n, by omega, by go_num, by rw [HLA.out]; simp⟩
        case measure => simp [intOf]; omega
      · rw [hdn] at cd HLA
        clear hdn
        go_wp2_with fail
        go_round
        case rel => exact ⟨n, by omega, by go_num, by rw [HLA.out]; simp⟩
        case measure => simp [intOf]; omega
    · have hk16 : k = 16 := by omega
      subst hk16
      have HT := Lib.hid (show st.l.take 16 = st.l by rw [List.take_of_length_le (by rw [HN.out]; omega)])
      have hkI : decide (((16 + 1 : Nat) : Int) ≤ 16) = false := by decide
      go_wp2_with fail
      go_ret
      refine ⟨ret_int ?_, rfl⟩
      rw [HT.out]
      rfl

def NoneQ (r : Rq) (l : List Pl) (k : Nat) : Prop := ∀ j (hj : j < l.length), j < k → usedP r l[j] = false

theorem noneQ_succ {r : Rq} {l : List Pl} {k n : Nat} {hk : k < l.length} (h : NoneQ r l k) (hn : k + 1 = n) (hu : usedP r l[k] = false) : NoneQ r l n := fun j hj hjk => by
  by_cases e : j = k
  · subst e; exact hu
  · exact h j hj (by omega)

theorem used_some {r : Rq} {k : Nat} (hk : k < st.l.length) (h : usedP r st.l[k] = true) : usedI st r = true := by
  simp only [usedI, List.any_eq_true]
  exact ⟨st.l[k], by simp, h⟩
theorem used_none {r : Rq} (hn : st.l.length = 16) (h : NoneQ r st.l 16) : usedI st r = false := by
  simp only [usedI, List.any_eq_false]
  intro q hq
  obtain ⟨j, hj, rfl⟩ := List.getElem_of_mem hq
  simpa using h j hj (by omega)

/-- What is looked at in a place. -/
theorem db_used (hw : AtD B w0 W p st ss) (n k : Nat) (hnk : n = k + 1) (hk : k < st.l.length) : ∃ vb vd a1 c1 a2 c2, (vb = .slice a1 (chosenS st.l[k].sl).length c1 ∧ vd = .slice a2 st.l[k].dw.rs.length c2) ∧ W.cell? ⟨p, 5 + n * 4, none⟩ = some (.bool st.l[k].sl.has) ∧ W.cell? ⟨p, 5 + n * 4 + 1, none⟩ = some vb ∧ W.cell? ⟨p, 277 + n, none⟩ = some (.bool st.l[k].done) ∧
    W.cell? ⟨p, 175 + n * 5 + 3, none⟩ = some vd ∧ Bat W vb (chosenS st.l[k].sl) ∧ Bat W vd st.l[k].dw.rs ∧ (chosenS st.l[k].sl).length ≤ 100000 ∧ st.l[k].dw.rs.length ≤ 100000 ∧ p < W.heap.size := by
  obtain ⟨h', m, D, h3, hd⟩ := ad_docI hw
  have hb := h3.head
  obtain ⟨s0, s1, -, -⟩ := db_slot hb hd n k hnk hk
  obtain ⟨-, -, s16⟩ := db_more hb hd n k hnk hk
  obtain ⟨-, -, -, s13, -⟩ := db_dwc hb n (by have := hd.n; omega)
  have hp := hd.pl k hk
  obtain ⟨t, t1, t2, -, -, -, t3, -⟩ := hp.dw
  rw [← hnk] at hp t3
  have e : t.rs = st.l[k].dw.rs := by rw [← t1]; rfl
  have hb1 : Bat W (m n 1) (chosenS st.l[k].sl) := hp.dc.b.1
  have hb2 : Bat W (m n 13) st.l[k].dw.rs := by rw [t3, ← e]; exact t2.b.1
  obtain ⟨a1, c1, e1⟩ := bat_form hb1
  obtain ⟨a2, c2, e2⟩ := bat_form hb2
  exact ⟨m n 1, m n 13, a1, c1, a2, c2, ⟨e1, e2⟩, s0, s1, s16, s13, hb1, hb2, hp.n, by rw [← e]; exact t2.bn, (docB_at hb).1⟩

set_option maxHeartbeats 4000000 in
set_option maxRecDepth 100000 in
theorem ad_used (hw : AtD B w0 W p st ss) (r : Rq) : Calls Try.prog 83 #[.pointer (some ⟨p, 0, none⟩), .agg #[.int .i64 r.client, .int .i64 r.time, .int .i64 r.kind, .int .i64 r.key, .int .i64 r.val, .int .i64 r.sl]] W fun e w' => e = .returned (.bool (usedI st r)) ∧ Upd [] W w' := by
  have H0 := Lib.hid (ad_box hw (rqBox r))
  have HU0 := Lib.hid (show Upd [] W (W.alloc (rqBox r)) from (Upd.refl _ _).alloc _)
  obtain ⟨h', m, D, h3, hd⟩ := ad_docI hw
  have HN := Lib.hid hd.n
  clear hw h3 hd
  go_enter Try.func83, Try.ntmps83
  go_wp2_with fail
  generalize W.heap.size = bx at *
  generalize W.alloc (rqBox r) = w1 at *
  go_loopw [5] (fun n wr => ∃ k : Nat, k ≤ 16 ∧ n = .int .i64 ((k + 1 : Nat) : Int) ∧ Hid (NoneQ r st.l k) ∧ Hid (Upd [] w1 wr)) (fun n _ => 17 - (intOf n).toNat)
  case atStart => exact ⟨0, by omega, rfl, Lib.hid (by intro j _ hj; omega), Lib.hid (Upd.refl _ _)⟩
  case round =>
    obtain ⟨k, hk, rfl, HA, HU⟩ := hrel
    by_cases hlt : k < 16
    · have hl : k < st.l.length := by rw [HN.out]; exact hlt
      have h1 := H0.out.upd0 HU.out
      obtain ⟨vb, vd, a1, c1, a2, c2, ⟨rfl, rfl⟩, s0, s1, s16, s13, hb1, hb2, hn1, hn2, hlt9⟩ := db_used h1 (k + 1) k rfl hl
      obtain ⟨p0, p1, p2, p3, p4, p5⟩ := rq_cells h1.ss_own.blk_out
      have hlx := block_lt h1.ss_own.blk_out
      have HH1 := Lib.hid (fun w' (hu : Upd [] wr w') => rhas_any _ (chosenS st.l[k].sl) r w' hn1 (hb1.upd (M := []) hu (by simp)))
      have HH2 := Lib.hid (fun w' (hu : Upd [] wr w') => rhas_any _ st.l[k].dw.rs r w' hn2 (hb2.upd (M := []) hu (by simp)))
      have HUP := Lib.hid (show usedP r st.l[k] = ((st.l[k].sl.has && decide (r ∈ chosenS st.l[k].sl)) || (st.l[k].done && decide (r ∈ st.l[k].dw.rs))) from rfl)
      have HSM := Lib.hid (fun (h : usedP r st.l[k] = true) => used_some hl h)
      clear h1 hb1 hb2
      generalize hnn : k + 1 = n at *
      have hn0 : (0 : Int) ≤ (n : Int) := by omega
      have hn16 : (n : Int) ≤ 16 := by omega
      have hn17 : (n : Int) < 17 := by omega
      generalize st.l[k].sl.has = b1 at *
      generalize st.l[k].done = b2 at *
      generalize hq1 : decide (r ∈ chosenS st.l[k].sl) = q1 at *
      generalize hq2 : decide (r ∈ st.l[k].dw.rs) = q2 at *
      clear hq1 hq2
      generalize (chosenS st.l[k].sl).length = l1 at *
      generalize st.l[k].dw.rs.length = l2 at *
      cases b1
      · cases b2
        · go_wp2_with fail
          refine Mix.wp_text2 (by kernel_rfl) (by kernel_rfl) ?_
          go_wp2_with fail
          refine ⟨by rfl, ?_⟩
          go_wp2_with fail
          go_roundw
          case rel => exact ⟨n, by omega, by go_num, Lib.hid (noneQ_succ HA.out hnn (by rw [HUP.out]; rfl)), Lib.hid HU.out.drew⟩
          case measure => simp [intOf]; omega
        · go_wp2_with fail
          refine Mix.wp_text2 (by kernel_rfl) (by kernel_rfl) ?_
          go_wp2_with fail
          refine (HH2.out _ (Upd.refl _ _).drew).mono ?_
          rintro e w3 ⟨rfl, hu3⟩
          have HU3 := Lib.hid (HU.out.drew.trans hu3)
          clear hu3
          cases q2
          · go_wp2_with fail
            refine ⟨by rfl, ?_⟩
            go_wp2_with fail
            go_roundw
            case rel => exact ⟨n, by omega, by go_num, Lib.hid (noneQ_succ HA.out hnn (by rw [HUP.out]; rfl)), HU3⟩
            case measure => simp [intOf]; omega
          · go_wp2_with fail
            refine ⟨by rfl, ?_⟩
            go_wp2_with fail
            go_ret
            rw [HSM.out (by rw [HUP.out]; rfl)]
            exact ⟨rfl, HU0.out.trans HU3.out⟩
      · go_wp2_with fail
        refine Mix.wp_text2 (by kernel_rfl) (by kernel_rfl) ?_
        go_wp2_with fail
        refine (HH1.out _ (Upd.refl _ _).drew).mono ?_
        rintro e w3 ⟨rfl, hu3⟩
        have hu3' : Upd [] wr w3 := (Upd.refl _ _).drew.trans hu3
        have x16 := (upd_cell0 hu3' hlt9).trans s16
        have x13 := (upd_cell0 hu3' hlt9).trans s13
        have r0 := (upd_cell0 hu3' hlx).trans p0
        have r1 := (upd_cell0 hu3' hlx).trans p1
        have r2 := (upd_cell0 hu3' hlx).trans p2
        have r3 := (upd_cell0 hu3' hlx).trans p3
        have r4 := (upd_cell0 hu3' hlx).trans p4
        have r5 := (upd_cell0 hu3' hlx).trans p5
        have HU3 := Lib.hid (HU.out.trans hu3')
        have HUX := Lib.hid hu3'
        clear hu3 hu3' s0 s1 s16 s13 p0 p1 p2 p3 p4 p5
        cases q1
        · cases b2
          · go_wp2_with fail
            refine ⟨by rfl, ?_⟩
            go_wp2_with fail
            go_roundw
            case rel => exact ⟨n, by omega, by go_num, Lib.hid (noneQ_succ HA.out hnn (by rw [HUP.out]; rfl)), HU3⟩
            case measure => simp [intOf]; omega
          · go_wp2_with fail
            refine (HH2.out _ HUX.out).mono ?_
            rintro e w4 ⟨rfl, hu4⟩
            have HU4 := Lib.hid (HU3.out.trans hu4)
            clear hu4
            cases q2
            · go_wp2_with fail
              refine ⟨by rfl, ?_⟩
              go_wp2_with fail
              go_roundw
              case rel => exact ⟨n, by omega, by go_num, Lib.hid (noneQ_succ HA.out hnn (by rw [HUP.out]; rfl)), HU4⟩
              case measure => simp [intOf]; omega
            · go_wp2_with fail
              refine ⟨by rfl, ?_⟩
              go_wp2_with fail
              go_ret
              rw [HSM.out (by rw [HUP.out]; rfl)]
              exact ⟨rfl, HU0.out.trans HU4.out⟩
        · go_wp2_with fail
          refine ⟨by rfl, ?_⟩
          go_wp2_with fail
          go_ret
          rw [HSM.out (by rw [HUP.out]; simp)]
          exact ⟨rfl, HU0.out.trans HU3.out⟩
    · have hk16 : k = 16 := by omega
      subst hk16
      have HNN := Lib.hid (used_none HN.out HA.out)
      have hkI : decide (((16 + 1 : Nat) : Int) ≤ 16) = false := by decide
      go_wp2_with fail
      go_ret
      rw [HNN.out]
      exact ⟨rfl, HU0.out.trans HU.out⟩

end
end Go.Proofs.Ytdeadekeffficaa

/- The document's instance: Certs. -/
namespace Go.Proofs.Ytdeadekeffficaa
open Go.RowKit Go.Heap

def CertsD (W : World) (r : List Cp) (e : Ending) (w' : World) : Prop := ∃ u cts, e = .returned u ∧ cts.map Ct.cp = r ∧ CtsAt w' u cts ∧ cts.length ≤ 16 ∧ Upd [] W w'

theorem certs_next (l : List Pl) (k : Nat) (hk : k < l.length) : ((l.take (k + 1)).filter (·.has)).map (·.ct) = ((l.take k).filter (·.has)).map (·.ct) ++ if l[k].has then [l[k].ct] else [] := by
  rw [List.take_add_one, List.getElem?_eq_getElem hk, Option.toList_some, List.filter_append, List.map_append]
  cases h : l[k].has <;> simp [h]

section
variable {B : Nat} {w0 w W W' : World} {ss rs : List Res} {p : Nat} {st : In}

/-- A place's certificate. -/
theorem db_cert (hw : AtD B w0 W p st ss) (n k : Nat) (hnk : n = k + 1) (hk : k < st.l.length) : ∃ (t : Ct) (a1 : Option Addr) (c1 : Nat) (a2 : Option Addr) (c2 : Nat), (t.vb = .slice a1 t.rs.length c1 ∧ t.vv = .slice a2 t.vs.length c2) ∧ t.cp = st.l[k].ct ∧ (Bat W t.vb t.rs ∧ t.rs.length ≤ 100000 ∧ Vts W t.vv t.vs ∧ t.vs.length ≤ 100000) ∧
    W.cell? ⟨p, 260 + n, none⟩ = some (.bool st.l[k].has) ∧ W.cell? ⟨p, 90 + n * 5, none⟩ = some (.int .i64 t.view) ∧ W.cell? ⟨p, 90 + n * 5 + 1, none⟩ = some (.int .i64 t.inst) ∧ W.cell? ⟨p, 90 + n * 5 + 2, none⟩ = some (.int .i64 t.seq) ∧ W.cell? ⟨p, 90 + n * 5 + 3, none⟩ = some t.vb ∧ W.cell? ⟨p, 90 + n * 5 + 4, none⟩ = some t.vv := by
  obtain ⟨h', m, D, h3, hd⟩ := ad_docI hw
  have hb := h3.head
  obtain ⟨-, s15, -⟩ := db_more hb hd n k hnk hk
  obtain ⟨s5, s6, s7, s8, s9⟩ := db_ctc hb n (by have := hd.n; omega)
  have hp := hd.pl k hk
  obtain ⟨t, t1, t2, e5, e6, e7, e8, e9⟩ := hp.ct
  rw [← hnk] at e5 e6 e7 e8 e9
  rw [e5] at s5
  rw [show m n 6 = _ from e6] at s6
  rw [show m n 7 = _ from e7] at s7
  rw [show m n 8 = _ from e8] at s8
  rw [show m n 9 = _ from e9] at s9
  obtain ⟨a1, c1, q1⟩ := bat_form t2.b.1
  obtain ⟨a2, c2, q2⟩ := vts_form t2.v.1
  exact ⟨t, a1, c1, a2, c2, ⟨q1, q2⟩, t1, ⟨t2.b.1, t2.bn, t2.v.1, t2.vn⟩, s15, s5, s6, s7, s8, s9⟩

set_option maxHeartbeats 4000000 in
set_option maxRecDepth 100000 in
theorem ad_certs (hw : AtD B w0 W p st ss) : Calls Try.prog 80 #[.pointer (some ⟨p, 0, none⟩)] W (CertsD W (certsI st)) := by
  obtain ⟨i0, hi, hz0, hz1, hz2⟩ := info_parts Try.infoCert
  obtain ⟨h', m, D, h3, hd⟩ := ad_docI hw
  have HN := Lib.hid hd.n
  have hlt := (docB_at h3.head).1
  have HW := Lib.hid hw
  clear h3 hd hw
  have H0 : Hid (Own W.heap.size W W (ownR 70 5 (.slice none 0 0) 0 [] :: [])) := Lib.hid (Own.start (Below.refl W.heap.size W) (Nat.le_refl _)).row0
  go_enter Try.func80, Try.ntmps80
  go_wp2_with fail
  go_loopw [3, 4] (fun out n wr => ∃ (k : Nat) (cts : List Ct) (ao : Option Addr) (cp : Nat), k ≤ 16 ∧ n = .int .i64 ((k + 1 : Nat) : Int) ∧ out = .slice ao cts.length cp ∧ Hid (cts.map Ct.cp = ((st.l.take k).filter (·.has)).map (·.ct)) ∧ Hid (cts.length ≤ k) ∧
    Hid (∀ c ∈ cts, Bat W c.vb c.rs ∧ c.rs.length ≤ 100000 ∧ Vts W c.vv c.vs ∧ c.vs.length ≤ 100000) ∧ Hid (Own W.heap.size W wr (ownR 70 5 (.slice ao cts.length cp) cts.length (cts.flatMap ctCells) :: []))) (fun _ n _ => 17 - (intOf n).toNat)
  case atStart => exact ⟨0, [], none, 0, by omega, rfl, rfl, Lib.hid rfl, Lib.hid (by simp), Lib.hid (by simp), H0⟩
  case round =>
    clear H0
    obtain ⟨k, cts, ao, cp, hk, rfl, rfl, HM, HLE, HP, H1⟩ := hrel
    by_cases hlt16 : k < 16
    · have hl : k < st.l.length := by rw [HN.out]; exact hlt16
      have hle := HLE.out
      have hu1 : Upd [] W wr := Upd.of_below H1.out.below
      obtain ⟨t, a1, c1, a2, c2, ⟨q1, q2⟩, q3, q4, s15, s5, s6, s7, s8, s9⟩ := db_cert HW.out (k + 1) k rfl hl
      obtain ⟨view, inst, seq, vb, vv, rs, vs⟩ := t
      simp only at q1 q2 q4 s5 s6 s7 s8 s9
      subst q1 q2
      have HT := Lib.hid (certs_next st.l k hl)
      have HQ3 := Lib.hid q3
      have HQ4 := Lib.hid q4
      have s15 := (upd_cell0 hu1 hlt).trans s15
      have s5 := (upd_cell0 hu1 hlt).trans s5
      have s6 := (upd_cell0 hu1 hlt).trans s6
      have s7 := (upd_cell0 hu1 hlt).trans s7
      have s8 := (upd_cell0 hu1 hlt).trans s8
      have s9 := (upd_cell0 hu1 hlt).trans s9
      clear hu1 q3 q4
      generalize hnn : k + 1 = n at *
      have hn0 : (0 : Int) ≤ (n : Int) := by omega
      have hn16 : (n : Int) ≤ 16 := by omega
      have hn17 : (n : Int) < 17 := by omega
      cases hh : st.l[k].has
      · rw [hh] at s15 HT
        clear hh
        go_wp2_with fail
        go_roundw
        case rel => exact ⟨n, cts, ao, cp, by omega, by go_num, rfl, Lib.hid (by rw [HM.out, HT.out]; simp), Lib.hid (by omega), HP, H1⟩
        case measure => simp [intOf]; omega
      · rw [hh] at s15 HT
        clear hh
        have H3 := Lib.hid (H1.out.alloc (.cells (ctCells ⟨view, inst, seq, .slice a1 rs.length c1, .slice a2 vs.length c2, rs, vs⟩).toArray 70))
        have HO := Lib.hid (ownR_owns H3.out.head)
        go_wp2_with (at_builtin; refine wpList_append_lies _ rfl (.tmp 15) (.tmp 22) 80 rfl 0 70 i0 (.agg #[.int .i64 0, .int .i64 0, .int .i64 0, .slice none 0 0, .slice none 0 0]) 5 72 Try.underlying80 hi hz0 hz1 hz2 rfl (by decide) _ cts.length _ rfl HO.out ⟨wr.heap.size, 0, none⟩ 1 1 (ctCells ⟨view, inst, seq, .slice a1 rs.length c1, .slice a2 vs.length c2, rs, vs⟩) rfl rfl ?c1 ?c2 (by decide) ?c3 ?c4 (Nat.zero_le _) _ rfl ?c6)
        case c1 => exact fun j u h => h
        case c2 => exact ctCells_one rfl rfl
        case c3 => unfold maxLen; omega
        case c4 => omega
        case c6 =>
          intro g cap2 w3 hown hgrow hat hlt3
          have H5 := Lib.hid (H3.out.grow hgrow (by rw [hs_alloc]; exact hat) hown)
          clear hown hgrow hat hlt3
          go_wp2_with fail
          go_roundw
          case rel =>
            refine ⟨n, cts ++ [⟨view, inst, seq, .slice a1 rs.length c1, .slice a2 vs.length c2, rs, vs⟩], some ⟨g, 0, none⟩, cap2, by omega, by go_num, by simp, Lib.hid ?_, Lib.hid (by simp; omega), Lib.hid ?_, Lib.hid ?_⟩
            · rw [List.map_append, HM.out, HT.out, ← HQ3.out]
              simp
            · intro c hc
              rcases List.mem_append.1 hc with hc | hc
              · exact HP.out c hc
              · simp at hc
                subst hc
                exact HQ4.out
            · rw [List.flatMap_append, List.length_append]
              simpa using H5.out
          case measure => simp [intOf]; omega
    · have hk16 : k = 16 := by omega
      subst hk16
      have HT := Lib.hid (show st.l.take 16 = st.l by rw [List.take_of_length_le (by rw [HN.out]; omega)])
      have hkI : decide (((16 + 1 : Nat) : Int) ≤ 16) = false := by decide
      go_wp2_with fail
      go_ret
      have hu1 : Upd [] W wr := Upd.of_below H1.out.below
      refine ⟨_, cts, rfl, by rw [HM.out, HT.out]; rfl, ⟨own_reads (ownR_owns H1.out.head), fun c hc => ?_⟩, by have := HLE.out; omega, hu1⟩
      obtain ⟨q1, q2, q3, q4⟩ := HP.out c hc
      exact ⟨q1.upd (M := []) hu1 (by simp), q2, Reads.upd (M := []) q3 hu1 (by simp), q4⟩

end
end Go.Proofs.Ytdeadekeffficaa

/- What psephoslaw15.InstOnce looks at: what an act leaves as it was. Plain. -/
namespace Go.Proofs.Ytdeadekeffficaa
open Go.RowKit Go.Heap

/-- What is done stays; what was told stays so, or the view is a greater one. -/
structure Le (st st' : In) : Prop where
  n : st'.l.length = st.l.length
  view : st.view ≤ st'.view
  pl : ∀ (k : Nat) (p : Pl), st.l[k]? = some p → ∃ p', st'.l[k]? = some p' ∧ (p.done = true → p'.done = true ∧ p'.dw = p.dw) ∧ (p.told = true → p'.told = true ∨ st.view < st'.view)

theorem Le.refl (st : In) : Le st st := ⟨rfl, Int.le_refl _, fun _ p h => ⟨p, h, fun h => ⟨h, rfl⟩, .inl⟩⟩
theorem Le.upd (st : In) (k : Nat) (g : Pl → Pl) (h : ∀ p, st.l[k]? = some p → (p.done = true → (g p).done = true ∧ (g p).dw = p.dw) ∧ (p.told = true → (g p).told = true)) : Le st (st.upd k g) :=
  ⟨by simp [In.upd], Int.le_refl _, fun j p hp => by
    by_cases e : k = j
    · subst e
      exact ⟨g p, by simp [In.upd, hp], (h p hp).1, fun ht => .inl ((h p hp).2 ht)⟩
    · exact ⟨p, by simp [In.upd, e, hp], fun hd => ⟨hd, rfl⟩, .inl⟩⟩

theorem le_pre (st : In) (seq : Int) (l : List Rq) : Le st (preI st seq l) := by
  unfold preI
  split
  · exact Le.refl _
  · split
    · exact Le.upd _ _ _ fun p _ => ⟨fun h => ⟨h, rfl⟩, fun h => h⟩
    · exact Le.refl _
theorem le_vote (st : In) (kind seq node sl : Int) (l : List Rq) : Le st (voteI st kind seq node sl l) := by
  unfold voteI
  split
  · exact Le.refl _
  · split
    · exact Le.upd _ _ _ fun p _ => ⟨fun h => ⟨h, rfl⟩, fun h => h⟩
    · exact Le.refl _
theorem le_prepared (st : In) (seq : Int) : Le st (preparedI st seq) := by
  unfold preparedI
  split
  · exact Le.upd _ _ _ fun p _ => ⟨fun h => ⟨h, rfl⟩, fun _ => rfl⟩
  · exact Le.refl _
theorem idx_at {st : In} {seq : Int} {k : Nat} {p : Pl} (hk : idx seq = some k) (hp : st.l[k]? = some p) : plAt st seq = some p := by simp [plAt, hk, hp]
theorem le_commits (st : In) (seq : Int) : Le st (commitsI st seq) := by
  unfold commitsI
  split
  · rename_i k c hk hc
    refine Le.upd _ _ _ fun p hp => ⟨fun hd => ?_, fun h => h⟩
    simp only [commI, idx_at hk hp, hd, if_true] at hc
    cases hc
  · exact Le.refl _
theorem le_adopt (st : In) (c : Cp) : Le st (adoptI st c) := by
  unfold adoptI
  split
  · exact Le.refl _
  · rename_i k hk
    split
    · rename_i hb
      refine Le.upd _ _ _ fun p hp => ⟨fun hd => ?_, fun h => h⟩
      simp only [adoptB, idx_at hk hp, hd] at hb
      simp at hb
    · exact Le.refl _
theorem le_leave (st : In) (v : Int) : Le st (leaveI st v) := by
  unfold leaveI
  split
  · rename_i hb
    simp only [leaveB, Bool.and_eq_true, decide_eq_true_eq] at hb
    refine ⟨by simp, by show st.view ≤ v; omega, fun k p hp => ⟨{ p with sl := emptySl st.f, told := false }, by simp [hp], fun hd => ⟨hd, rfl⟩, fun _ => .inr hb.1⟩⟩
  · exact Le.refl _
theorem preAll_at : ∀ (bs : List (List Rq)) (ps : List Pl) (k : Nat) (p : Pl), ps[k]? = some p → ∃ p', (preAll bs ps)[k]? = some p' ∧ p'.done = p.done ∧ p'.dw = p.dw ∧ p'.told = p.told
  | [], ps, k, p, h => ⟨p, by simpa [preAll] using h, rfl, rfl, rfl⟩
  | _ :: _, [], k, p, h => by simp at h
  | b :: bs, q :: ps, 0, p, h => by
    simp at h
    subst h
    exact ⟨{ q with sl := slPre b q.sl }, by simp [preAll], rfl, rfl, rfl⟩
  | b :: bs, q :: ps, k + 1, p, h => by
    obtain ⟨p', e1, e2⟩ := preAll_at bs ps k p (by simpa using h)
    exact ⟨p', by simpa [preAll] using e1, e2⟩
theorem le_install (st : In) (bs : List (List Rq)) : Le st (installI st bs) := by
  unfold installI
  split
  · refine ⟨preAll_len _ _, Int.le_refl _, fun k p hp => ?_⟩
    obtain ⟨p', e1, e2, e3, e4⟩ := preAll_at bs st.l k p hp
    exact ⟨p', e1, fun hd => ⟨by rw [e2]; exact hd, e3⟩, fun ht => .inl (by rw [e4]; exact ht)⟩
  · exact Le.refl _
theorem le_step (st : In) (a : A7) : Le st (stepI st a) := by
  unfold stepI
  dsimp only
  split
  · exact le_pre _ _ _
  · split
    · exact le_vote _ _ _ _ _ _
    · split
      · exact le_prepared _ _
      · split
        · exact le_commits _ _
        · split
          · exact le_adopt _ _
          · split
            · exact le_leave _ _
            · exact le_install _ _

/-- What InstOnce has noted by number: 1 and the view in which it was last prepared; with what it was committed. -/
structure OnceI (st : In) (pr : List Int) (tb : List Cp) : Prop where
  np : pr.length = 17
  nt : tb.length = 17
  n : st.l.length = 16
  vw : 0 ≤ st.view ∧ st.view ≤ 12
  pr : ∀ (k : Nat) (p : Pl) (x : Int), st.l[k]? = some p → pr[k + 1]? = some x → x ≤ st.view + (if p.told = true then 1 else 0)
  tb : ∀ (k : Nat) (p : Pl) (c : Cp), st.l[k]? = some p → tb[k + 1]? = some c → 0 < c.seq → p.done = true ∧ p.dw = c

theorem OnceI.le {st st' : In} {pr : List Int} {tb : List Cp} (h : OnceI st pr tb) (hl : Le st st') (hv : st'.view ≤ 12) : OnceI st' pr tb where
  np := h.np
  nt := h.nt
  n := hl.n.trans h.n
  vw := ⟨Int.le_trans h.vw.1 hl.view, hv⟩
  pr := fun k p' x hp' hx => by
    have hk : k < st.l.length := by have := (List.getElem?_eq_some_iff.1 hp').1; rw [hl.n] at this; exact this
    obtain ⟨q, e, -, ht⟩ := hl.pl k st.l[k] (by simp)
    rw [e] at hp'
    cases hp'
    have hvw := hl.view
    have := h.pr k st.l[k] x (by simp) hx
    by_cases hto : st.l[k].told = true
    · rw [if_pos hto] at this
      rcases ht hto with ht | ht
      · rw [if_pos ht]; omega
      · split <;> omega
    · rw [if_neg hto] at this
      split <;> omega
  tb := fun k p' c hp' hc h0 => by
    have hk : k < st.l.length := by have := (List.getElem?_eq_some_iff.1 hp').1; rw [hl.n] at this; exact this
    obtain ⟨q, e, hd, -⟩ := hl.pl k st.l[k] (by simp)
    rw [e] at hp'
    cases hp'
    obtain ⟨d1, d2⟩ := h.tb k st.l[k] c (by simp) hc h0
    obtain ⟨d3, d4⟩ := hd d1
    exact ⟨d3, d4.trans d2⟩

theorem OnceI.new (f : Nat) (num ahead : Int) : OnceI (newI f num ahead) (List.replicate 17 0) (List.replicate 17 noCp) where
  np := rfl
  nt := rfl
  n := rfl
  vw := ⟨by show (0 : Int) ≤ 0; decide, by show (0 : Int) ≤ 12; decide⟩
  pr := fun k p x hp hx => by
    have : x = 0 := by
      rw [List.getElem?_replicate] at hx
      split at hx
      · exact (Option.some.inj hx).symm
      · cases hx
    subst this
    show (0 : Int) ≤ 0 + _
    split <;> decide
  tb := fun k p c hp hc h0 => by
    have : c = noCp := by
      rw [List.getElem?_replicate] at hc
      split at hc
      · exact (Option.some.inj hc).symm
      · cases hc
    subst this
    exact absurd h0 (by decide)

/-- A certificate was prepared: it is of this view, and was not told in it. -/
theorem OnceI.prep {st : In} {pr : List Int} {tb : List Cp} (h : OnceI st pr tb) {k : Nat} (hk : k < 16) {c : Cp} (hc : prepI st ((k : Int) + 1) = some c) :
    c.view = st.view ∧ c.seq = (k : Int) + 1 ∧ st.on = true ∧ (∀ x, pr[k + 1]? = some x → x ≤ c.view) ∧ (preparedI st ((k : Int) + 1)).view = st.view ∧ (preparedI st ((k : Int) + 1)).on = st.on ∧ OnceI (preparedI st ((k : Int) + 1)) (pr.set (k + 1) (1 + c.view)) tb := by
  have hi : idx ((k : Int) + 1) = some k := by rw [idx_of (by omega) (by omega)]; exact congrArg some (by omega)
  have hkl : k < st.l.length := by rw [h.n]; exact hk
  have hp := idx_at (st := st) hi (p := st.l[k]) (by simp)
  have hst : preparedI st ((k : Int) + 1) = st.upd k fun p => { p with told := true, has := true, ct := c } := by simp only [preparedI, hi, hc]
  simp only [prepI, hp] at hc
  split at hc
  · rename_i hon
    simp only [Bool.and_eq_true, Bool.not_eq_true'] at hon
    obtain ⟨vs, hvs, rfl⟩ := Option.map_eq_some_iff.1 hc
    refine ⟨rfl, rfl, hon.1, fun x hx => ?_, by rw [hst]; rfl, by rw [hst]; rfl, ?_⟩
    · have := h.pr k st.l[k] x (by simp) hx
      rw [if_neg (by simp [hon.2])] at this
      simpa using this
    · have h2 := h.le (le_prepared st ((k : Int) + 1)) (by rw [hst]; exact h.vw.2)
      refine { h2 with np := by simp [h.np], pr := fun j p x hj hx => ?_ }
      rw [List.getElem?_set] at hx
      split at hx
      · rename_i e
        have e : k = j := by omega
        subst e
        rw [hst] at hj ⊢
        simp only [In.upd, List.getElem?_modify, if_true] at hj
        rw [List.getElem?_eq_getElem hkl] at hj
        simp at hj
        subst hj
        split at hx
        · cases hx
          show 1 + st.view ≤ st.view + _
          simp; omega
        · cases hx
      · exact h2.pr j p x hj hx
  · cases hc

theorem OnceI.comm {st : In} {pr : List Int} {tb : List Cp} (h : OnceI st pr tb) {k : Nat} (hk : k < 16) {c : Cp} (hc : committedI st ((k : Int) + 1) = some c) : OnceI st pr (tb.set (k + 1) c) := by
  have hi : idx ((k : Int) + 1) = some k := by rw [idx_of (by omega) (by omega)]; exact congrArg some (by omega)
  have hkl : k < st.l.length := by rw [h.n]; exact hk
  have hp := idx_at (st := st) hi (p := st.l[k]) (by simp)
  simp only [committedI, hp] at hc
  split at hc
  · rename_i hd
    cases hc
    refine { h with nt := by simp [h.nt], tb := fun j p c hj hx h0 => ?_ }
    rw [List.getElem?_set] at hx
    split at hx
    · rename_i e
      have e : k = j := by omega
      subst e
      rw [List.getElem?_eq_getElem hkl] at hj
      cases hj
      split at hx
      · cases hx
        exact ⟨hd, rfl⟩
      · cases hx
    · exact h.tb j p c hj hx h0
  · cases hc

/-- What was noted as committed is so still. -/
theorem OnceI.same {st : In} {pr : List Int} {tb : List Cp} (h : OnceI st pr tb) {k : Nat} (hk : k < 16) {c : Cp} (hc : tb[k + 1]? = some c) (h0 : 0 < c.seq) : committedI st ((k : Int) + 1) = some c := by
  have hi : idx ((k : Int) + 1) = some k := by rw [idx_of (by omega) (by omega)]; exact congrArg some (by omega)
  have hkl : k < st.l.length := by rw [h.n]; exact hk
  have hp := idx_at (st := st) hi (p := st.l[k]) (by simp)
  obtain ⟨d1, d2⟩ := h.tb k st.l[k] c (by simp) hc h0
  simp only [committedI, hp, d1, if_true, d2]

end Go.Proofs.Ytdeadekeffficaa

/- Slices of batches that are owned: what psephoslaw15.do installs. -/
namespace Go.Proofs.Ytdeadekeffficaa
open Go.RowKit Go.Heap

theorem Try.infoBatch : (Try.prog.info? 33).map (fun i => (i.zero, i.size, i.bytes)) = some (some (.slice none 0 0), 1, 24) := by kernel_rfl

/-- Batches can be read through a slice. -/
def BsAt (w : World) (v : Value) (bs : List (List Rq)) : Prop := ∃ ao cap, v = .slice ao bs.length cap ∧ ∀ k (hk : k < bs.length), ∃ b o u, ao = some ⟨b, o, none⟩ ∧ b < w.heap.size ∧ w.cell? ⟨b, o + k, none⟩ = some u ∧ Bat w u bs[k]

section
variable {B : Nat} {w0 w W W' : World} {ss rs : List Res} {i p : Nat} {st sd : In}

set_option maxHeartbeats 2000000 in
theorem ai_install_yes {v : Value} {bs : List (List Rq)} (h : AtI B w0 W i st ss) (hR : ∀ w, Own B w0 w ss → BsAt w v bs) (hbn : ∀ b ∈ bs, b.length ≤ 100000) (hon : st.on = false) (hlen : bs.length ≤ 16) :
    Calls Try.prog 44 #[.pointer (some ⟨i, 0, none⟩), v] W fun e w' => e = .returned (.bool true) ∧ AtI B w0 w' i { st with on := true, l := preAll bs st.l } ss := by
  obtain ⟨ao, cap, rfl, -⟩ := hR _ h.ss_own
  obtain ⟨x, rfl, rfl, h3⟩ := h
  have ho := own_open h3
  obtain ⟨-, -, -, -, c4, c5, l1, l2⟩ := oi_cells ho
  obtain ⟨-, fz⟩ := oi_fz ho
  have z4 := fz 4
  have hon' : x.on = false := hon
  rw [hon'] at c4
  have H1 : Hid (AtI B w0 (W.setCell ⟨x.i, 4, none⟩ (.bool true)) x.i { x.st with on := true } ss) := Lib.hid ⟨{ x with on := true }, rfl, rfl, own_shut (by
    have h4 : Own B w0 (W.setCell ⟨x.i, 4, none⟩ (.bool true)) (blk x.i (insO x.f x.num x.ahead x.view true (.slice (some ⟨x.b, 0, none⟩) 16 x.cap)) :: segR x.b 122 (x.l.flatMap pmCells) :: certsR x :: (x.l.map pmR ++ ss)) := Own.store ho 4 (.bool true)
    exact oi_hd h4 (oi_ok ho).vw)⟩
  have hlb : decide ((16 : Int) < (bs.length : Int)) = false := by simp; omega
  clear ho h3 fz hon hon'
  generalize hl0 : x.st = st0 at *
  clear hl0
  generalize x.i = i at *
  have HBN := Lib.hid hbn
  have HR := Lib.hid hR
  clear hbn hR
  go_enter Try.func44, Try.ntmps44
  go_wp2_with fail
  generalize W.setCell ⟨i, 4, none⟩ (.bool true) = w1 at *
  clear c4 c5 l1 l2 z4 hlb
  go_loopw [26] (fun n wr => ∃ k : Nat, k ≤ bs.length ∧ n = .int .i64 k ∧ Hid (AtI B w0 wr i { st0 with on := true, l := preAll (bs.take k) st0.l } ss)) (fun n _ => bs.length - (intOf n).toNat)
  case atStart => exact ⟨0, by omega, rfl, Lib.hid (by simpa [preAll] using H1.out)⟩
  case round =>
    clear H1
    obtain ⟨k, hk, rfl, H1⟩ := hrel
    by_cases hlt : k < bs.length
    · have hkI : (k : Int) < (bs.length : Int) := by omega
      have hk16 : (k : Int) < 16 := by omega
      obtain ⟨ao', cap', e, hbs⟩ := HR.out _ H1.out.ss_own
      simp only [Value.slice.injEq, true_and] at e
      obtain ⟨rfl, rfl⟩ := e
      obtain ⟨b, o, u, rfl, hb, cu, hbat⟩ := hbs k hlt
      obtain ⟨y, rfl, hy, h3⟩ := H1.out
      have ho := own_open h3
      obtain ⟨-, -, -, -, -, c5, l1, l2⟩ := oi_cells ho
      have hyl : k < y.l.length := by rw [(oi_ok ho).n]; omega
      have cp := oi_ptr ho k hyl
      have HC := Lib.hid (own_pre (oi_pick ho k hyl) u bs[k] hbat (HBN.out _ (List.getElem_mem hlt)))
      have HS := Lib.hid (show ({ y.st with l := y.st.l.modify k fun p => { p with sl := slPre bs[k] p.sl } } : In) = { st0 with on := true, l := preAll (bs.take (k + 1)) st0.l } by rw [hy, preAll_take bs st0.l k hlt])
      have HY := Lib.hid hyl
      obtain ⟨uo, ucap, rfl⟩ := bat_form hbat
      clear ho h3 H1 hy hbat hbs
      go_wp2_with fail
      refine HC.out.mono ?_
      rintro e w2 ⟨rfl, -, h2⟩
      have H2 : Hid (AtI B w0 w2 y.i { st0 with on := true, l := preAll (bs.take (k + 1)) st0.l } ss) := Lib.hid
        ⟨y.sl k { y.l[k] with sl := slPre bs[k] y.l[k].sl }, rfl, by rw [← HS.out]; exact st_set y k HY.out _ (fun p => { p with sl := slPre bs[k] p.sl }) rfl, own_shut (oi_unpick k HY.out _ h2 rfl ⟨rfl, rfl⟩ rfl)⟩
      clear h2
      go_wp2_with fail
      go_roundw
      case rel => exact ⟨k + 1, by omega, by go_num, H2⟩
      case measure => simp [intOf]; omega
    · have hkb : decide ((k : Int) < (bs.length : Int)) = false := by simp; omega
      have hke : k = bs.length := by omega
      have H2 : Hid (AtI B w0 wr i { st0 with on := true, l := preAll bs st0.l } ss) := Lib.hid (by have h := H1.out; rw [hke, List.take_length] at h; exact h)
      clear hke H1
      go_wp2_with fail
      go_ret
      exact ⟨rfl, H2.out⟩

set_option maxHeartbeats 1000000 in
theorem ai_install_any {v : Value} {bs : List (List Rq)} (h : AtI B w0 W i st ss) (hR : ∀ w, Own B w0 w ss → BsAt w v bs) (hbn : ∀ b ∈ bs, b.length ≤ 100000) (hmx : bs.length ≤ 1000) :
    Calls Try.prog 44 #[.pointer (some ⟨i, 0, none⟩), v] W fun e w' => e = .returned (.bool (instB st bs.length)) ∧ AtI B w0 w' i (installI st bs) ss := by
  cases hon : st.on with
  | true =>
    have HB := Lib.hid (show instB st bs.length = false by simp [instB, hon])
    have hin : installI st bs = st := by unfold installI; rw [if_neg (by simp [HB.out])]
    rw [HB.out, hin]
    clear hin
    have HW := Lib.hid h
    obtain ⟨ao, cap, rfl, -⟩ := hR _ h.ss_own
    obtain ⟨x, rfl, rfl, h3⟩ := h
    obtain ⟨-, -, -, -, c4, c5, l1, l2⟩ := oi_cells (own_open h3)
    have hon' : x.on = true := hon
    rw [hon'] at c4
    clear h3 hon hon' hbn hR
    go_enter Try.func44, Try.ntmps44
    go_wp2_with fail
    go_ret
    exact ⟨rfl, HW.out⟩
  | false =>
    by_cases hl : bs.length ≤ 16
    · have HB := Lib.hid (show instB st bs.length = true by simp [instB, hon, hl])
      have hin : installI st bs = { st with on := true, l := preAll bs st.l } := by unfold installI; rw [if_pos HB.out]
      rw [HB.out, hin]
      exact ai_install_yes h hR hbn hon hl
    · have HB := Lib.hid (show instB st bs.length = false by simp [instB, hon, hl])
      have hin : installI st bs = st := by unfold installI; rw [if_neg (by simp [HB.out])]
      rw [HB.out, hin]
      clear hin
      have hlb : decide ((16 : Int) < (bs.length : Int)) = true := by simp; omega
      have HW := Lib.hid h
      obtain ⟨ao, cap, rfl, -⟩ := hR _ h.ss_own
      obtain ⟨x, rfl, rfl, h3⟩ := h
      obtain ⟨-, -, -, -, c4, c5, l1, l2⟩ := oi_cells (own_open h3)
      have hon' : x.on = false := hon
      rw [hon'] at c4
      clear h3 hon hon' hbn hR hl
      go_enter Try.func44, Try.ntmps44
      go_wp2_with fail
      go_ret
      exact ⟨rfl, HW.out⟩

/-! ### Resources -/

abbrev usR (us : List (Value × List Rq)) : Res := joinR (us.map fun u => cpR u.1 u.2)
abbrev rwR (us : List (Value × List Rq)) : Res := joinR (us.map fun u => rowR 32 6 u.1 u.2.length)
abbrev lsR (v : Value) (n : Nat) (vals : List Value) : Res := ownR 33 1 v n vals

/-- Batches that are only read, by their values. -/
def bR (vals : List Value) (bs : List (List Rq)) : Res := imm (fun w D => vals.length = bs.length ∧ ∀ k (hk : k < bs.length), ∃ u, vals[k]? = some u ∧ BatIn w u bs[k] D) (fun ⟨e, h⟩ hk hs => ⟨e, fun k hkl => let ⟨u, e, hb⟩ := h k hkl; ⟨u, e, hb.dep hk hs⟩⟩)

theorem own_bR0 (h : Own B w0 W rs) : Own B w0 W (bR [] [] :: rs) := h.new (Upd.refl [] _) ⟨[], ⟨⟨rfl, by simp⟩, by simp⟩, by simp, fun k hk => h.lt k hk⟩ (by simp [bR, imm])
theorem own_bRadd {u : Value} {l : List Rq} {vals : List Value} {bs : List (List Rq)} (h : Own B w0 W (bR vals bs :: batR u l :: rs)) : Own B w0 W (bR (vals ++ [u]) (bs ++ [l]) :: rs) := by
  refine own_join h ?_
  rintro D D1 ⟨e, hb⟩ hu
  refine ⟨by simp [e], fun k hk => ?_⟩
  by_cases hk2 : k < bs.length
  · obtain ⟨x, e1, e2⟩ := hb k hk2
    refine ⟨x, by rw [List.getElem?_append_left (by omega)]; exact e1, ?_⟩
    rw [List.getElem_append_left hk2]
    exact ReadsIn.mono e2 (by simp +contextual)
  · have hk3 : k = bs.length := by simp at hk; omega
    subst hk3
    refine ⟨u, by rw [← e]; simp, ?_⟩
    simp only [List.getElem_concat_length]
    exact ReadsIn.mono hu (by simp +contextual)

theorem own_us0 (h : Own B w0 W rs) : Own B w0 W (usR [] :: rs) := Own.shut (rs := []) h
theorem own_usadd {u : Value} {l : List Rq} {us : List (Value × List Rq)} (h : Own B w0 W (usR us :: cpR u l :: rs)) : Own B w0 W (usR (us ++ [(u, l)]) :: rs) := by
  have h1 : Own B w0 W (us.map (fun u => cpR u.1 u.2) ++ (cpR u l :: rs)) := h.open
  refine Own.shut ?_
  rw [List.map_append, List.append_assoc]
  exact h1

/-- What was owned is only read from now on. -/
theorem own_freeze {r : Res} {P : World → List Nat → Prop} {d} (h : Own B w0 W (r :: rs)) (hr : ∀ D, r.Q W D → ∃ D', P W D' ∧ ∀ k ∈ D', k ∈ r.M ∨ k ∈ D) : Own B w0 W (imm P d :: rs) := by
  obtain ⟨D, q1, q2, q3⟩ := h.head
  obtain ⟨D', p1, p2⟩ := hr D q1
  have hap := List.pairwise_cons.1 h.apart
  refine h.drop.new (Upd.refl [] _) ⟨D', ⟨p1, fun k hk => r.lt q1 k (p2 k hk)⟩, fun k hk hn => ?_, fun k hk => h.drop.lt k hk⟩ (by simp [imm])
  rcases p2 k hk with hk | hk
  · obtain ⟨s, hs, hm⟩ := (Ms_iff _ _).1 hn
    exact hap.1 s hs k hk hm
  · exact q2 k hk ((Ms_cons _ _ _).2 (.inr hn))

theorem own_bsR {v : Value} {vals : List Value} {bs : List (List Rq)} (h : Own B w0 W (lsR v bs.length vals :: bR vals bs :: rs)) : Own B w0 W (bsR v bs :: rs) := by
  have h1 := own_freeze (P := fun w D => ReadsIn w v 1 bs.length vals D) (d := fun a hk hs => a.dep hk hs) h (fun D q => by
    obtain ⟨q1, rfl⟩ := q
    exact ⟨blkOf v, ⟨own_reads q1, fun _ k hk => hk⟩, fun k hk => .inl hk⟩)
  refine own_join h1 ?_
  rintro D D1 hr ⟨-, hb⟩
  exact ⟨vals, hr.mono (by simp +contextual), fun k hk => let ⟨u, e, hu⟩ := hb k hk; ⟨u, e, ReadsIn.mono hu (by simp +contextual)⟩⟩

theorem us_bat {us : List (Value × List Rq)} (h : Own B w0 W (usR us :: rs)) (k : Nat) (hk : k < us.length) : Bat W us[k].1 us[k].2 := by
  have h1 : Own B w0 W (us.map (fun u => cpR u.1 u.2) ++ rs) := h.open
  exact cpR_bat (h1.all (cpR us[k].1 us[k].2) (List.mem_append_left _ (List.mem_map.2 ⟨us[k], by simp, rfl⟩))).1

theorem own_bsAt {v : Value} {us : List (Value × List Rq)} (h : Own B w0 W (lsR v us.length (us.map (·.1)) :: usR us :: rs)) : BsAt W v (us.map (·.2)) := by
  have h1 := own_reads (ownR_owns h.head)
  obtain ⟨ao, cap, e, -, -, -, -, h5⟩ := h1
  refine ⟨ao, cap, by rw [e]; simp, fun k hk => ?_⟩
  have hk' : k < us.length := by simpa using hk
  obtain ⟨b, o, rfl, hb, hc⟩ := h5 (by omega)
  refine ⟨b, o, us[k].1, rfl, hb, by rw [hc k (by omega)]; simp [hk'], ?_⟩
  have := us_bat h.drop k hk'
  simpa using this

theorem own_rows {us : List (Value × List Rq)} (h : Own B w0 W (usR us :: rs)) : Own B w0 W (rwR us :: rs) := by
  have hM : ∀ us : List (Value × List Rq), Ms (us.map fun u => rowR 32 6 u.1 u.2.length) = Ms (us.map fun u => cpR u.1 u.2) := fun us => by simp [Ms, List.flatMap_map, rowR, cpR]
  obtain ⟨D, ⟨q1, q2, q3⟩, h2, h3⟩ := h.head
  refine h.alter (r' := rwR us) ⟨D, ⟨fun r hr => ?_, ?_, fun k hk => by rw [hM]; exact q3 k hk⟩, h2, h3⟩ (fun k hk => by
    have : k ∈ Ms (us.map fun u => rowR 32 6 u.1 u.2.length) := hk
    rw [hM] at this
    exact this)
  · obtain ⟨u, hu, rfl⟩ := List.mem_map.1 hr
    obtain ⟨D', p1, p2⟩ := q1 (cpR u.1 u.2) (List.mem_map.2 ⟨u, hu, rfl⟩)
    obtain ⟨p1, rfl⟩ := p1
    refine ⟨[], ⟨?_, rfl⟩, by simp⟩
    rcases p1.2 with hn | ⟨g, cap, cur, e, hb, hg, r1, r2, r3, r4⟩
    · exact .inl hn
    · exact .inr ⟨g, cap, cur, e, hg, r1, r2, r3⟩
  · rw [List.pairwise_map] at q2 ⊢
    exact q2

theorem rw_row {us : List (Value × List Rq)} (h : Own B w0 W (rwR us :: rs)) (k : Nat) (hk : k < us.length) : (rowR 32 6 us[k].1 us[k].2.length).At W (Ms (us.map (fun u => rowR 32 6 u.1 u.2.length) ++ rs)) := by
  have h1 : Own B w0 W (us.map (fun u => rowR 32 6 u.1 u.2.length) ++ rs) := h.open
  exact (h1.all _ (List.mem_append_left _ (List.mem_map.2 ⟨us[k], by simp, rfl⟩))).1

theorem row_put6 {E sz n cap g : Nat} (h : Own B w0 w (rowR E sz (.slice (some ⟨g, 0, none⟩) n cap) n :: rs)) (j0 j1 j2 j3 j4 j5 : Nat) (v0 v1 v2 v3 v4 v5 : Value) :
    Own B w0 ((((((w.setCell ⟨g, j0, none⟩ v0).setCell ⟨g, j1, none⟩ v1).setCell ⟨g, j2, none⟩ v2).setCell ⟨g, j3, none⟩ v3).setCell ⟨g, j4, none⟩ v4).setCell ⟨g, j5, none⟩ v5) (rowR E sz (.slice (some ⟨g, 0, none⟩) n cap) n :: rs) :=
  h.step (r' := rowR E sz (.slice (some ⟨g, 0, none⟩) n cap) n) ((((((((Upd.refl _ _).setCell (.inl (by simp [rowR, blkOf])) _).setCell (.inl (by simp [rowR, blkOf])) _).setCell (.inl (by simp [rowR, blkOf])) _).setCell (.inl (by simp [rowR, blkOf])) _).setCell (.inl (by simp [rowR, blkOf])) _).setCell (.inl (by simp [rowR, blkOf])) _)) (row_set (row_set (row_set (row_set (row_set (row_set h.head _ _) _ _) _ _) _ _) _ _) _ _) (fun _ hk => .inl hk)

theorem rw_put6 {us : List (Value × List Rq)} (h : Own B w0 W (rwR us :: rs)) (k : Nat) (hk : k < us.length) {g cap : Nat} (e : us[k].1 = .slice (some ⟨g, 0, none⟩) us[k].2.length cap) (j0 j1 j2 j3 j4 j5 : Nat) (v0 v1 v2 v3 v4 v5 : Value) :
    Own B w0 ((((((W.setCell ⟨g, j0, none⟩ v0).setCell ⟨g, j1, none⟩ v1).setCell ⟨g, j2, none⟩ v2).setCell ⟨g, j3, none⟩ v3).setCell ⟨g, j4, none⟩ v4).setCell ⟨g, j5, none⟩ v5) (rwR us :: rs) := by
  have h1 : Own B w0 W ([] ++ (us.map (fun u => rowR 32 6 u.1 u.2.length) ++ rs)) := h.open
  have h2 := h1.pick k hk
  rw [e] at h2
  have h3 := row_put6 h2 j0 j1 j2 j3 j4 j5 v0 v1 v2 v3 v4 v5
  rw [← e] at h3
  have h4 := Own.unpick (f := fun u : Value × List Rq => rowR 32 6 u.1 u.2.length) (x := us[k]) k hk h3
  rw [List.set_getElem_self] at h4
  exact Own.shut h4

/-! ### Beside both -/

theorem ab_two {r1 r2 r : Res} (h : AtB B w0 W i st p sd (r1 :: r2 :: ss)) (f : ∀ rs, Own B w0 W (r1 :: r2 :: rs) → Own B w0 W (r :: rs)) : AtB B w0 W i st p sd (r :: ss) := by
  obtain ⟨x, a, m, e1, e2, o⟩ := h
  exact ⟨x, a, m, e1, e2, (f _ (o.perm ((List.perm_append_comm (l₁ := [_, _, _]) (l₂ := [r1, r2])).append_right ss))).perm3⟩

theorem ab_install {v : Value} {us : List (Value × List Rq)} (h : AtB B w0 W i st p sd (lsR v us.length (us.map (·.1)) :: usR us :: ss)) (hbn : ∀ u ∈ us, u.2.length ≤ 100000) (hmx : us.length ≤ 1000) :
    Calls Try.prog 44 #[.pointer (some ⟨i, 0, none⟩), v] W fun e w' => e = .returned (.bool (instB st us.length)) ∧ AtB B w0 w' i (installI st (us.map (·.2))) p sd (lsR v us.length (us.map (·.1)) :: usR us :: ss) := by
  obtain ⟨a, m, hx⟩ := ab_x h
  refine (ai_install_any (bs := us.map (·.2)) hx (fun w ho => own_bsAt ho.drop.drop) (fun b hb => by obtain ⟨u, hu, rfl⟩ := List.mem_map.1 hb; exact hbn u hu) (by simpa using hmx)).mono ?_
  rintro e w' ⟨he, h2⟩
  rw [List.length_map] at he
  exact ⟨he, ab_ofx h2⟩

end
end Go.Proofs.Ytdeadekeffficaa

/- Acts that came in: psephoslaw15.Act. -/
namespace Go.Proofs.Ytdeadekeffficaa
open Go.ChangeShapes Go.WideShapes Go.ChangeAt Go.RowKit Go.Deep Go.Heap

def a7Cells (a : A7) : List Value := [.int .i64 a.act, .int .i64 a.seq, .int .i64 a.kind, .int .i64 a.node, .int .i64 a.sl, .int .i64 a.which, .int .i64 a.view]

/-- v is a slice of the acts xs. -/
def Acts7 (w : World) (v : Value) (xs : List A7) : Prop := Reads w v 7 xs.length (xs.flatMap a7Cells)

theorem Acts7.below {w w' : World} {v : Value} {xs : List A7} (h : Acts7 w v xs) (hu : Upd [] w w') : Acts7 w' v xs := Reads.upd h hu (by simp)

theorem Acts7.at {w : World} {ao : Option Addr} {n cap : Nat} {xs : List A7} (h : Acts7 w (.slice ao n cap) xs) (k : Nat) (hk : k < xs.length) :
    n = xs.length ∧ ∃ b o, ao = some ⟨b, o, none⟩ ∧ b < w.heap.size ∧ w.cell? ⟨b, o + k * 7, none⟩ = some (.int .i64 xs[k].act) ∧ w.cell? ⟨b, o + k * 7 + 1, none⟩ = some (.int .i64 xs[k].seq) ∧ w.cell? ⟨b, o + k * 7 + 2, none⟩ = some (.int .i64 xs[k].kind) ∧
      w.cell? ⟨b, o + k * 7 + 3, none⟩ = some (.int .i64 xs[k].node) ∧ w.cell? ⟨b, o + k * 7 + 4, none⟩ = some (.int .i64 xs[k].sl) ∧ w.cell? ⟨b, o + k * 7 + 5, none⟩ = some (.int .i64 xs[k].which) ∧ w.cell? ⟨b, o + k * 7 + 6, none⟩ = some (.int .i64 xs[k].view) := by
  obtain ⟨ao', cap', hv, h1, h2, h3, h4, h5⟩ := h
  simp only [Value.slice.injEq] at hv
  obtain ⟨rfl, rfl, rfl⟩ := hv
  obtain ⟨b, o, rfl, hbs, hc⟩ := h5 (by omega)
  have hg : ∀ r, r < 7 → w.cell? ⟨b, o + k * 7 + r, none⟩ = (a7Cells xs[k])[r]? := by
    intro r hr
    have := hc (k * 7 + r) (by omega)
    rw [flat_get (cells := a7Cells) (sz := 7) (fun _ => rfl) xs k r xs[k] (by simp) hr] at this
    rw [← this]
    congr 2
    omega
  exact ⟨rfl, b, o, rfl, hbs, hg 0 (by omega), hg 1 (by omega), hg 2 (by omega), hg 3 (by omega), hg 4 (by omega), hg 5 (by omega), hg 6 (by omega)⟩

section
variable {H : Type} {enc : TypeId × Value → H} {W : World} {base : Nat} {spare : Nat → Bool} {held : Bool}

theorem seven {cs : List Value} (h : cs.length = 7) : ∃ a b c d e f g, cs = [a, b, c, d, e, f, g] := by
  match cs, h with
  | [a, b, c, d, e, f, g], _ => exact ⟨a, b, c, d, e, f, g, rfl⟩

theorem a7_cells {n : Nat} {cs : List Value} {y : DataW H × List MemPlace} (hl : cs.length = 7) (h : DataW.trod enc Try.prog W base spare held n 89 cs = some y) : ∃ a : A7, cs = a7Cells a ∧ True := by
  obtain ⟨c0, c1, c2, c3, c4, c5, c6, rfl⟩ := seven hl
  obtain ⟨ys, n', _, _, _, hyl, hf⟩ := DataW.trod_struct Try.underlying89 h
  obtain ⟨a0, e0⟩ := int_cell Try.underlying3 (get_some hyl (by decide)) (hf 0 _ rfl)
  obtain ⟨a1, e1⟩ := int_cell Try.underlying3 (get_some hyl (by decide)) (hf 1 _ rfl)
  obtain ⟨a2, e2⟩ := int_cell Try.underlying3 (get_some hyl (by decide)) (hf 2 _ rfl)
  obtain ⟨a3, e3⟩ := int_cell Try.underlying3 (get_some hyl (by decide)) (hf 3 _ rfl)
  obtain ⟨a4, e4⟩ := int_cell Try.underlying3 (get_some hyl (by decide)) (hf 4 _ rfl)
  obtain ⟨a5, e5⟩ := int_cell Try.underlying3 (get_some hyl (by decide)) (hf 5 _ rfl)
  obtain ⟨a6, e6⟩ := int_cell Try.underlying3 (get_some hyl (by decide)) (hf 6 _ rfl)
  simp [Try.cellsInt] at e0 e1 e2 e3 e4 e5 e6
  subst e0 e1 e2 e3 e4 e5 e6
  exact ⟨⟨a0, a1, a2, a3, a4, a5, a6⟩, rfl, trivial⟩

set_option maxRecDepth 100000 in
theorem acts7_of {base' : Nat} {v : Value} {d : DataW H} {p : List MemPlace} {r : Reach} (hv : Value.okWide Try.prog W r base' 85 v) (h : DataW.Trod enc Try.prog W base spare held 85 v d p) : ∃ xs : List A7, Acts7 W v xs := by
  obtain ⟨ao, len, cap, rfl⟩ := okWide_slice Try.underlying85 hv
  obtain ⟨fuel, hf⟩ := h
  obtain ⟨xs, h1, -⟩ := slice_reads (sz := 7) (cells := a7Cells) (Q := fun _ => True) Try.underlying85 (by kernel_rfl) (by omega) (fun _ => rfl) (fun n cs' y hl hy => a7_cells hl hy) hf
  exact ⟨xs, h1⟩

end
end Go.Proofs.Ytdeadekeffficaa

/- What psephoslaw15.InstOnce keeps in memory. -/
namespace Go.Proofs.Ytdeadekeffficaa
open Go.RowKit Go.Heap

section
variable {B : Nat} {w0 W W' : World} {ss rs : List Res} {i p : Nat} {st sd : In}

theorem own_seg {b : Nat} {T : TypeId} {cur : Array Value} {vals : List Value} (h : Own B w0 W (blk b (.cells cur T (0, 0)) :: rs)) (e : cur.toList = vals) : Own B w0 W (segR b T vals :: rs) := by
  have hb := h.blk_out
  refine h.alter (r' := segR b T vals) ⟨[], ⟨⟨cur, hb, by rw [← e]; simp, fun j hj => by rw [← e]; simp⟩, rfl⟩, by simp, fun k hk => h.lt k hk⟩ (fun k hk => hk)

theorem ai_turn {r r' : Res} (h : AtI B w0 W i st (r :: ss)) (f : ∀ rs, Own B w0 W (r :: rs) → Own B w0 W' (r' :: rs)) : AtI B w0 W' i st (r' :: ss) := let ⟨x, e1, e2, o⟩ := h; ⟨x, e1, e2, (f _ o.swap).swap⟩
theorem ai_inew {r : Res} (h : AtI B w0 W i st ss) (f : ∀ rs, Own B w0 W rs → Own B w0 W' (r :: rs)) : AtI B w0 W' i st (r :: ss) := let ⟨x, e1, e2, o⟩ := h; ⟨x, e1, e2, (f _ o).swap⟩
theorem ai_two {r1 r2 r : Res} (h : AtI B w0 W i st (r1 :: r2 :: ss)) (f : ∀ rs, Own B w0 W (r1 :: r2 :: rs) → Own B w0 W (r :: rs)) : AtI B w0 W i st (r :: ss) := let ⟨x, e1, e2, o⟩ := h; ⟨x, e1, e2, (f _ o.rot').swap⟩
theorem ai_ok (h : AtI B w0 W i st ss) : st.l.length = 16 ∧ 0 ≤ st.view ∧ st.view ≤ 12 := by
  obtain ⟨x, -, rfl, o⟩ := h
  have h := own_ok o
  exact ⟨by simp [Ins.st, h.n], h.vw.1, h.vw.2⟩

theorem ctv_none {r : Nat → Value} {a : Nat} {D : List Nat} (h0 : r a = .int .i64 0) (h1 : r (a + 1) = .int .i64 0) (h2 : r (a + 2) = .int .i64 0) (h3 : r (a + 3) = .slice none 0 0) (h4 : r (a + 4) = .slice none 0 0) : CtV W r a noCp D :=
  ⟨noCt, rfl, ⟨ReadsIn.nil _ _ _, by simp [noCt], ReadsIn.nil _ _ _, by simp [noCt]⟩, h0, h1, h2, h3, h4⟩

def zrow (q : Nat) : Value := if q = 1 ∨ q = 2 ∨ q = 3 ∨ q = 8 ∨ q = 9 ∨ q = 13 ∨ q = 14 then .slice none 0 0 else if q = 0 ∨ q = 4 ∨ q = 15 ∨ q = 16 then .bool false else .int .i64 0
def zhead (f : Nat) (num ahead : Int) (k : Nat) : Value := if k = 0 then .int .i64 f else if k = 1 then .int .i64 num else if k = 2 then .int .i64 ahead else if k = 3 then .int .i64 0 else .bool true

theorem docI_new (f : Nat) (num ahead : Int) (hf1 : 1 ≤ f) (hf2 : f ≤ 4) (ha1 : 1 ≤ ahead) (ha2 : ahead ≤ 16) (D : List Nat) : DocI W (zhead f num ahead) (fun _ => zrow) (newI f num ahead) D where
  n := rfl
  f1 := hf1
  f2 := hf2
  h0 := rfl
  h1 := rfl
  h2 := rfl
  h3 := rfl
  h4 := rfl
  a1 := ha1
  a2 := ha2
  vw := ⟨by show (0 : Int) ≤ 0; decide, by show (0 : Int) ≤ 12; decide⟩
  off := fun e => by cases e
  z := fun q => by
    unfold zrow
    split
    · rfl
    · split <;> rfl
  pl := fun k hk => by
    have e : (newI f num ahead).l[k] = emptyPl f := List.getElem_replicate _
    rw [e]
    exact {
      has := rfl
      dc := docIn_empty f
      told := rfl
      ct := ctv_none rfl rfl rfl rfl rfl
      dw := ctv_none rfl rfl rfl rfl rfl
      hc := rfl
      hd := rfl
      n := by simp [chosenS, emptyPl, emptySl]
      pl := by simp [emptyPl, emptySl]; rfl
      cl := by simp [emptyPl, emptySl]; rfl }

/-- A new instance of the document's beside one. -/
theorem ab_start {cur : Array Value} (h : AtI B w0 W i st ss) (f : Nat) (num ahead : Int) (hf1 : 1 ≤ f) (hf2 : f ≤ 4) (ha1 : 1 ≤ ahead) (ha2 : ahead ≤ 16) (hc : cur.toList = (List.range 294).map (docCell (zhead f num ahead) fun _ => zrow)) :
    AtB B w0 (W.alloc (.cells cur 95 (0, 0))) i st W.heap.size (newI f num ahead) ss := by
  obtain ⟨x, e1, e2, o⟩ := h
  have hu : Upd [] W (W.alloc (.cells cur 95 (0, 0))) := (Upd.refl _ _).alloc _
  have hsz : cur.size = 294 := by rw [← Array.length_toList, hc]; simp
  have o2 : Own B w0 (W.alloc (.cells cur 95 (0, 0))) (docB W.heap.size (zhead f num ahead) (fun _ => zrow) :: instR x :: ss) := o.new hu ⟨[], ⟨⟨cur, heap_alloc_new _ _, hsz, fun j hj => by
    rw [← Array.getElem?_toList, hc]
    simp [hj]⟩, rfl⟩, by simp, fun k hk => Nat.lt_of_lt_of_le (o.lt k hk) hu.size⟩ (by simp [docB])
  have o3 : Own B w0 (W.alloc (.cells cur 95 (0, 0))) (docI (zhead f num ahead) (fun _ => zrow) (newI f num ahead) :: docB W.heap.size (zhead f num ahead) (fun _ => zrow) :: instR x :: ss) :=
    o2.new (Upd.refl [] _) ⟨[], ⟨docI_new f num ahead hf1 hf2 ha1 ha2 [], by simp⟩, by simp, fun k hk => o2.lt k hk⟩ (by simp [docI, imm])
  exact ⟨x, _, _, e1, e2, o3.perm (by
    refine List.Perm.trans (List.perm_middle (l₁ := [_, _])) ?_
    exact (List.Perm.swap _ _ _).cons _)⟩

theorem seg_int {b : Nat} {T : TypeId} {xs : List Int} {w : World} {A : List Nat} (h : (segR b T (xs.map (.int .i64))).At w A) (j : Nat) (hj : j < xs.length) : b < w.heap.size ∧ w.cell? ⟨b, j, none⟩ = some (.int .i64 xs[j]) ∧ w.frozen? ⟨b, j, none⟩ = false := by
  obtain ⟨h1, h2, h3⟩ := segR_at h
  exact ⟨h1, by rw [h2 j (by simpa using hj)]; simp [hj], h3 j⟩
theorem seg_ct {b : Nat} {T : TypeId} {cts : List Ct} {w : World} {A : List Nat} (h : (segR b T (cts.flatMap ctCells)).At w A) (j : Nat) (hj : j < cts.length) : b < w.heap.size ∧ w.cell? ⟨b, j * 5, none⟩ = some (.int .i64 cts[j].view) ∧ w.cell? ⟨b, j * 5 + 1, none⟩ = some (.int .i64 cts[j].inst) ∧ w.cell? ⟨b, j * 5 + 2, none⟩ = some (.int .i64 cts[j].seq) ∧
    w.cell? ⟨b, j * 5 + 3, none⟩ = some cts[j].vb ∧ w.cell? ⟨b, j * 5 + 4, none⟩ = some cts[j].vv ∧ ∀ o, w.frozen? ⟨b, o, none⟩ = false := by
  obtain ⟨h1, h2, h3⟩ := segR_at h
  have hl : (cts.flatMap ctCells).length = cts.length * 5 := flat_length (cells := ctCells) (sz := 5) (fun _ => rfl) cts
  have hg : ∀ r, r < 5 → w.cell? ⟨b, j * 5 + r, none⟩ = (ctCells cts[j])[r]? := fun r hr => by
    rw [h2 _ (by rw [hl]; omega), flat_at ctCells 5 (fun _ => rfl) cts j r hj hr]
  exact ⟨h1, hg 0 (by omega), hg 1 (by omega), hg 2 (by omega), hg 3 (by omega), hg 4 (by omega), h3⟩

theorem own_segint {b : Nat} {T : TypeId} {xs : List Int} (h : Own B w0 W (segR b T (xs.map (.int .i64)) :: rs)) (j : Nat) (x : Int) : Own B w0 (W.setCell ⟨b, j, none⟩ (.int .i64 x)) (segR b T ((xs.set j x).map (.int .i64)) :: rs) := by
  rw [List.map_set]
  exact h.put j _
theorem own_segct {b : Nat} {T : TypeId} {cts : List Ct} (h : Own B w0 W (segR b T (cts.flatMap ctCells) :: rs)) (j : Nat) (hj : j < cts.length) (c : Ct) :
    Own B w0 (((((W.setCell ⟨b, j * 5, none⟩ (.int .i64 c.view)).setCell ⟨b, j * 5 + 1, none⟩ (.int .i64 c.inst)).setCell ⟨b, j * 5 + 2, none⟩ (.int .i64 c.seq)).setCell ⟨b, j * 5 + 3, none⟩ c.vb).setCell ⟨b, j * 5 + 4, none⟩ c.vv) (segR b T ((cts.set j c).flatMap ctCells) :: rs) := by
  have h5 := ((((h.put (j * 5) (.int .i64 c.view)).put (j * 5 + 1) (.int .i64 c.inst)).put (j * 5 + 2) (.int .i64 c.seq)).put (j * 5 + 3) c.vb).put (j * 5 + 4) c.vv
  have e : ((((((cts.flatMap ctCells).set (j * 5) (.int .i64 c.view)).set (j * 5 + 1) (.int .i64 c.inst)).set (j * 5 + 2) (.int .i64 c.seq)).set (j * 5 + 3) c.vb).set (j * 5 + 4) c.vv) = (cts.set j c).flatMap ctCells := by
    have hj0 : cts[j]? = some cts[j] := by simp
    have q0 := flat_set (cells := ctCells) (sz := 5) (fun _ => rfl) cts j 0 cts[j] { cts[j] with view := c.view } (.int .i64 c.view) hj0 (by omega) rfl
    have q1 := flat_set (cells := ctCells) (sz := 5) (fun _ => rfl) (cts.set j { cts[j] with view := c.view }) j 1 { cts[j] with view := c.view } { cts[j] with view := c.view, inst := c.inst } (.int .i64 c.inst) (by simp [hj]) (by omega) rfl
    have q2 := flat_set (cells := ctCells) (sz := 5) (fun _ => rfl) (cts.set j { cts[j] with view := c.view, inst := c.inst }) j 2 { cts[j] with view := c.view, inst := c.inst } { cts[j] with view := c.view, inst := c.inst, seq := c.seq } (.int .i64 c.seq) (by simp [hj]) (by omega) rfl
    have q3 := flat_set (cells := ctCells) (sz := 5) (fun _ => rfl) (cts.set j { cts[j] with view := c.view, inst := c.inst, seq := c.seq }) j 3 { cts[j] with view := c.view, inst := c.inst, seq := c.seq } { cts[j] with view := c.view, inst := c.inst, seq := c.seq, vb := c.vb } c.vb (by simp [hj]) (by omega) rfl
    have q4 := flat_set (cells := ctCells) (sz := 5) (fun _ => rfl) (cts.set j { cts[j] with view := c.view, inst := c.inst, seq := c.seq, vb := c.vb }) j 4 { cts[j] with view := c.view, inst := c.inst, seq := c.seq, vb := c.vb } c c.vv (by simp [hj]) (by omega) rfl
    simp only [List.set_set] at q1 q2 q3 q4
    rw [Nat.add_zero] at q0
    rw [q0, q1, q2, q3, q4]
  rw [← e]
  exact h5

/-- A certificate of the table is another one, whose parts are at hand. -/
theorem cts_put {cts : List Ct} {c : Ct} (j : Nat) (h : Own B w0 W (votR c.vv c.vs :: batR c.vb c.rs :: ctsR cts :: rs)) (hn : c.rs.length ≤ 100000) (hm : c.vs.length ≤ 100000) : Own B w0 W (ctsR (cts.set j c) :: rs) := by
  have h1 := cts_add h hn hm
  exact own_tell h1 (fun D hq c' hc' => by
    rcases List.mem_or_eq_of_mem_set hc' with hc' | rfl
    · exact hq c' (List.mem_append_left _ hc')
    · exact hq _ (by simp))

section
variable {pr : List Int} {tb : List Cp} {k : Nat}
theorem OnceI.prepK (h : OnceI st pr tb) (hk1 : 1 ≤ k) (hk : k ≤ 16) {c : Cp} (hc : prepI st (k : Int) = some c) :
    c.view = st.view ∧ c.seq = (k : Int) ∧ st.on = true ∧ (∀ x, pr[k]? = some x → x ≤ c.view) ∧ (preparedI st (k : Int)).view = st.view ∧ (preparedI st (k : Int)).on = st.on ∧ OnceI (preparedI st (k : Int)) (pr.set k (1 + c.view)) tb := by
  obtain ⟨j, rfl⟩ : ∃ j, k = j + 1 := ⟨k - 1, by omega⟩
  have e : ((j + 1 : Nat) : Int) = (j : Int) + 1 := by simp
  rw [e] at hc ⊢
  exact h.prep (by omega) hc
theorem OnceI.commK (h : OnceI st pr tb) (hk1 : 1 ≤ k) (hk : k ≤ 16) {c : Cp} (hc : committedI st (k : Int) = some c) : OnceI st pr (tb.set k c) := by
  obtain ⟨j, rfl⟩ : ∃ j, k = j + 1 := ⟨k - 1, by omega⟩
  have e : ((j + 1 : Nat) : Int) = (j : Int) + 1 := by simp
  rw [e] at hc
  exact h.comm (by omega) hc
theorem OnceI.sameK (h : OnceI st pr tb) (hk1 : 1 ≤ k) (hk : k ≤ 16) {c : Cp} (hc : tb[k]? = some c) (h0 : 0 < c.seq) : committedI st (k : Int) = some c := by
  obtain ⟨j, rfl⟩ : ∃ j, k = j + 1 := ⟨k - 1, by omega⟩
  have e : ((j + 1 : Nat) : Int) = (j : Int) + 1 := by simp
  rw [e]
  exact h.same (by omega) hc h0
end

theorem prep_no' {seq : Int} (h : prepI st seq = none) : preparedI st seq = st := prep_off h

theorem ai_committed2 (h : AtI B w0 W i st ss) (seq : Int) : Calls Try.prog 42 #[.pointer (some ⟨i, 0, none⟩), .int .i64 seq] W fun e w' => ∃ c : Ct, e = .returned (.tuple #[ctAgg c, .bool (committedI st seq).isSome]) ∧ Told W w' (committedI st seq) c ∧
    AtI B w0 w' i st (redR c.vv 2 c.vs.length (vsCells c.vs) :: redR c.vb 6 c.rs.length (rqsCells c.rs) :: ss) := by
  obtain ⟨x, h1, rfl, h3⟩ := h
  refine (ins_committed h3 h1 seq).mono ?_
  rintro e w' ⟨c, he, hc, hn, hb, hv, n1, n2, x', e1, e2, e3⟩
  exact ⟨c, he, ⟨hc, hn, hb, hv, n1, n2⟩, x', e1, e2, e3.rot⟩

theorem ctsR_get {w : World} {A : List Nat} {cts : List Ct} {c : Ct} (h : (ctsR cts).At w A) (hc : c ∈ cts) : Bat w c.vb c.rs ∧ c.rs.length ≤ 100000 ∧ Vts w c.vv c.vs ∧ c.vs.length ≤ 100000 :=
  let ⟨_, q, _⟩ := h
  let ⟨h1, h2, h3, h4⟩ := q.1 c hc
  ⟨h1.1, h2, h3.1, h4⟩

/-- The document's instance is forgotten. -/
theorem ab_undo (h : AtB B w0 W i st p sd ss) : AtI B w0 W i st ss := by
  obtain ⟨a, m, hx⟩ := ab_x h
  exact ai_drop (ai_drop hx)

end
end Go.Proofs.Ytdeadekeffficaa

/- An instance and the document's one, side by side: the calls that only read. -/
namespace Go.Proofs.Ytdeadekeffficaa
open Go.RowKit Go.Heap

section
variable {B : Nat} {w0 W W' : World} {ss : List Res} {i p : Nat} {st sd : In} {r : Res}

theorem ab_ai (h : AtB B w0 W i st p sd ss) : ∃ ss', AtI B w0 W i st ss' := let ⟨_, _, hx⟩ := ab_x h; ⟨_, hx⟩
theorem ab_ad (h : AtB B w0 W i st p sd ss) : ∃ ss', AtD B w0 W p sd ss' := let ⟨_, _, _, hx⟩ := ab_d h; ⟨_, hx⟩

theorem ab_done (h : AtB B w0 W i st p sd ss) : Calls Try.prog 37 #[.pointer (some ⟨i, 0, none⟩)] W fun e w' => e = .returned (.int .i64 (doneI st)) ∧ W = w' := let ⟨_, hx⟩ := ab_ai h; ai_done hx
theorem ab_view (h : AtB B w0 W i st p sd ss) : Calls Try.prog 50 #[.pointer (some ⟨i, 0, none⟩)] W fun e w' => e = .returned (.int .i64 st.view) ∧ W = w' := let ⟨_, hx⟩ := ab_ai h; ai_view hx
theorem ab_installed (h : AtB B w0 W i st p sd ss) : Calls Try.prog 51 #[.pointer (some ⟨i, 0, none⟩)] W fun e w' => e = .returned (.bool st.on) ∧ W = w' := let ⟨_, hx⟩ := ab_ai h; ai_installed hx
theorem ab_next (h : AtB B w0 W i st p sd ss) : Calls Try.prog 52 #[.pointer (some ⟨i, 0, none⟩)] W fun e w' => e = .returned (.int .i64 (nextI st)) ∧ Upd [] W w' := let ⟨_, hx⟩ := ab_ai h; ai_next hx
theorem ab_chosen (h : AtB B w0 W i st p sd ss) (seq : Int) : Calls Try.prog 81 #[.pointer (some ⟨i, 0, none⟩), .int .i64 seq] W (ChosenP W (chosenI st seq)) := let ⟨_, hx⟩ := ab_ai h; ai_chosen hx seq
theorem ab_used (h : AtB B w0 W i st p sd ss) (r : Rq) : Calls Try.prog 43 #[.pointer (some ⟨i, 0, none⟩), .agg #[.int .i64 r.client, .int .i64 r.time, .int .i64 r.kind, .int .i64 r.key, .int .i64 r.val, .int .i64 r.sl]] W fun e w' => e = .returned (.bool (usedI st r)) ∧ Upd [] W w' := let ⟨_, hx⟩ := ab_ai h; ai_used hx r

theorem ab_reach (h : AtB B w0 W i st p sd ss) : Calls Try.prog 78 #[.pointer (some ⟨p, 0, none⟩)] W fun e w' => e = .returned (.int .i64 (doneI sd)) ∧ W = w' := let ⟨_, hx⟩ := ab_ad h; ad_reach hx
theorem ab_dnext (h : AtB B w0 W i st p sd ss) : Calls Try.prog 79 #[.pointer (some ⟨p, 0, none⟩)] W fun e w' => e = .returned (.int .i64 (nextI sd)) ∧ W = w' := let ⟨_, hx⟩ := ab_ad h; ad_next hx
theorem ab_dcerts (h : AtB B w0 W i st p sd ss) : Calls Try.prog 80 #[.pointer (some ⟨p, 0, none⟩)] W (CertsD W (certsI sd)) := let ⟨_, hx⟩ := ab_ad h; ad_certs hx
theorem ab_dused (h : AtB B w0 W i st p sd ss) (r : Rq) : Calls Try.prog 83 #[.pointer (some ⟨p, 0, none⟩), .agg #[.int .i64 r.client, .int .i64 r.time, .int .i64 r.kind, .int .i64 r.key, .int .i64 r.val, .int .i64 r.sl]] W fun e w' => e = .returned (.bool (usedI sd r)) ∧ Upd [] W w' := let ⟨_, hx⟩ := ab_ad h; ad_used hx r

theorem ab_committed (h : AtB B w0 W i st p sd ss) (seq : Int) : Calls Try.prog 42 #[.pointer (some ⟨i, 0, none⟩), .int .i64 seq] W (ToldB B w0 i p (committedI st seq) st sd ss) := by
  obtain ⟨a, m, hx⟩ := ab_x h
  refine (ai_committed2 hx seq).mono ?_
  rintro e w' ⟨c, he, ⟨t1, t2, -⟩, x, e1, e2, o⟩
  exact ⟨c, he, t1, t2, x, a, m, e1, e2, told_perm o⟩

/-- The certificates, in a slice of the caller's own. -/
def CertsB (B : Nat) (w0 : World) (i p : Nat) (st sd : In) (ss : List Res) (e : Ending) (w' : World) : Prop :=
  ∃ u cts, e = .returned u ∧ cts.map Ct.cp = certsI st ∧ CtsAt w' u cts ∧ AtB B w0 w' i st p sd ss

theorem ab_certs (h : AtB B w0 W i st p sd ss) : Calls Try.prog 46 #[.pointer (some ⟨i, 0, none⟩)] W (CertsB B w0 i p st sd ss) := by
  obtain ⟨a, m, hx⟩ := ab_x h
  refine (ai_certs hx).mono ?_
  rintro e w' ⟨u, cts, he, hc, h2⟩
  refine ⟨u, cts, he, hc, ⟨own_reads (ownR_owns h2.ss_own.head), fun c hc => ?_⟩, ab_ofx (ai_drop (ai_drop h2))⟩
  obtain ⟨q1, q2, q3, q4⟩ := ctsR_get h2.ss_own.drop.head hc
  exact ⟨q1, q2, q3, q4⟩

/-- The document's instance: what its first cells hold. -/
theorem ab_head (h : AtB B w0 W i st p sd ss) : W.cell? ⟨p, 3, none⟩ = some (.int .i64 sd.view) ∧ W.cell? ⟨p, 4, none⟩ = some (.bool sd.on) ∧ p < W.heap.size := by
  obtain ⟨_, hx⟩ := ab_ad h
  obtain ⟨h', m, D, h3, hd⟩ := ad_docI hx
  obtain ⟨-, -, -, c3, c4, hlt, -⟩ := db_head h3.head hd
  exact ⟨c3, c4, hlt⟩

/-- What is compared of a place. -/
theorem ab_place (h : AtB B w0 W i st p sd ss) (n k : Nat) (hnk : n = k + 1) (hk : k < sd.l.length) : ∃ (vb : Value) (a0 : Option Addr) (c0 : Nat) (t : Ct) (a1 : Option Addr) (c1 : Nat) (a2 : Option Addr) (c2 : Nat), (vb = .slice a0 (chosenS sd.l[k].sl).length c0 ∧ t.vb = .slice a1 t.rs.length c1 ∧ t.vv = .slice a2 t.vs.length c2) ∧ t.cp = sd.l[k].dw ∧
    (Bat W vb (chosenS sd.l[k].sl) ∧ (chosenS sd.l[k].sl).length ≤ 100000 ∧ Bat W t.vb t.rs ∧ t.rs.length ≤ 100000 ∧ Vts W t.vv t.vs ∧ t.vs.length ≤ 100000) ∧
    W.cell? ⟨p, 5 + n * 4, none⟩ = some (.bool sd.l[k].sl.has) ∧ W.cell? ⟨p, 5 + n * 4 + 1, none⟩ = some vb ∧ W.cell? ⟨p, 277 + n, none⟩ = some (.bool sd.l[k].done) ∧
    W.cell? ⟨p, 175 + n * 5, none⟩ = some (.int .i64 t.view) ∧ W.cell? ⟨p, 175 + n * 5 + 1, none⟩ = some (.int .i64 t.inst) ∧ W.cell? ⟨p, 175 + n * 5 + 2, none⟩ = some (.int .i64 t.seq) ∧ W.cell? ⟨p, 175 + n * 5 + 3, none⟩ = some t.vb ∧ W.cell? ⟨p, 175 + n * 5 + 4, none⟩ = some t.vv ∧ p < W.heap.size := by
  obtain ⟨_, hx⟩ := ab_ad h
  obtain ⟨h', m, D, h3, hd⟩ := ad_docI hx
  have hb := h3.head
  obtain ⟨s0, s1, -, -⟩ := db_slot hb hd n k hnk hk
  obtain ⟨-, -, s16⟩ := db_more hb hd n k hnk hk
  obtain ⟨s5, s6, s7, s8, s9⟩ := db_dwc hb n (by have := hd.n; omega)
  have hp := hd.pl k hk
  obtain ⟨t, t1, t2, e5, e6, e7, e8, e9⟩ := hp.dw
  rw [← hnk] at hp e5 e6 e7 e8 e9
  rw [e5] at s5
  rw [show m n 11 = _ from e6] at s6
  rw [show m n 12 = _ from e7] at s7
  rw [show m n 13 = _ from e8] at s8
  rw [show m n 14 = _ from e9] at s9
  have hb1 : Bat W (m n 1) (chosenS sd.l[k].sl) := hp.dc.b.1
  obtain ⟨a0, c0, q0⟩ := bat_form hb1
  obtain ⟨a1, c1, q1⟩ := bat_form t2.b.1
  obtain ⟨a2, c2, q2⟩ := vts_form t2.v.1
  exact ⟨m n 1, a0, c0, t, a1, c1, a2, c2, ⟨q0, q1, q2⟩, t1, ⟨hb1, hp.n, t2.b.1, t2.bn, t2.v.1, t2.vn⟩, s0, s1, s16, s5, s6, s7, s8, s9, (docB_at hb).1⟩

end
end Go.Proofs.Ytdeadekeffficaa

/- psephoslaw15.right. -/
namespace Go.Proofs.Ytdeadekeffficaa
open Go.RowKit Go.Heap

section
variable {B : Nat} {w0 W W' : World} {ss : List Res} {i p : Nat} {st : In}

set_option maxHeartbeats 8000000 in
set_option maxRecDepth 100000 in
theorem right15_any (h : AtB B w0 W i st p st ss) (hn : st.l.length = 16) :
    Calls Try.prog 54 #[.pointer (some ⟨i, 0, none⟩), .pointer (some ⟨p, 0, none⟩)] W fun e w' => e = .returned (.bool true) ∧ AtB B w0 w' i st p st ss := by
  have H0 := Lib.hid h
  have H1 := Lib.hid h.drew
  obtain ⟨c3, c4, hlt⟩ := ab_head h
  have HN := Lib.hid hn
  clear h hn
  have HDn := Lib.hid (ab_done H1.out)
  have HRe := Lib.hid (ab_reach H1.out)
  have HVi := Lib.hid (ab_view H1.out)
  have HIn := Lib.hid (ab_installed H1.out)
  have HNx := Lib.hid (ab_next H1.out)
  have d3 : W.drew.cell? ⟨p, 3, none⟩ = some (.int .i64 st.view) := c3
  have d4 : W.drew.cell? ⟨p, 4, none⟩ = some (.bool st.on) := c4
  go_enter Try.func54, Try.ntmps54
  go_wp2_with fail
  go_region_held3 (fun w' => w'.cell? ⟨p, 3, none⟩ = some (.int .i64 st.view) ∧ w'.cell? ⟨p, 4, none⟩ = some (.bool st.on))
    (first | (with_reducible exact ⟨d3, d4⟩) | (with_reducible exact ⟨e3, e4⟩) | (with_reducible exact ⟨f3, f4⟩) | (with_reducible exact ⟨g3, g4⟩) | (with_reducible exact ⟨m3, m4⟩))
    (first
      | (go_at_call 37; refine HDn.out.mono ?_; rintro e w' ⟨rfl, rfl⟩)
      | (go_at_call 78; refine HRe.out.mono ?_; rintro e w' ⟨rfl, rfl⟩)
      | (go_at_call 50; refine HVi.out.mono ?_; rintro e w' ⟨rfl, rfl⟩)
      | (go_at_call 51; refine HIn.out.mono ?_; rintro e w' ⟨rfl, rfl⟩)
      | (go_at_call 52; refine HNx.out.mono ?_; rintro e w2 ⟨rfl, hu2⟩; have H2 := Lib.hid (H1.out.upd0 hu2); have hh := ab_head H2.out; obtain ⟨e3, e4, -⟩ := hh; have HD2 := Lib.hid (ab_dnext H2.out); have HC2 := Lib.hid (ab_certs H2.out); clear hu2)
      | (go_at_call 79; refine HD2.out.mono ?_; rintro e w' ⟨rfl, rfl⟩)
      | (go_at_call 46; refine HC2.out.mono ?_; rintro e w3 ⟨u3, cts3, rfl, hc3, hat3, h3⟩; have H3 := Lib.hid h3; have hh := ab_head h3; obtain ⟨f3, f4, -⟩ := hh; have HCC3 := Lib.hid hc3; have HAT3 := Lib.hid hat3; have HD3 := Lib.hid (ab_dcerts h3); clear h3 hc3 hat3)
      | (go_at_call 80; refine HD3.out.mono ?_; rintro e w4 ⟨u4, cts4, rfl, hc4, hat4, hl4, hu4⟩; have H4 := Lib.hid (H3.out.upd0 hu4); have hh := ab_head H4.out; obtain ⟨g3, g4, -⟩ := hh; have HK4 := Lib.hid (keepCerts_any u3 u4 cts3 cts4 w4 (HAT3.out.upd hu4) hat4 (by rw [HCC3.out, hc4]) (by have e := congrArg List.length (HCC3.out.trans hc4.symm); simp at e; omega)); clear hc4 hat4 hl4 hu4)
      | (go_at_call 53; refine HK4.out.mono ?_; rintro e w5 ⟨rfl, hu5⟩; have H5 := Lib.hid (H4.out.upd0 hu5); have hh := ab_head H5.out; obtain ⟨m3, m4, -⟩ := hh; clear hu5))
  have HS := Lib.hid H5.out
  clear H0 H1 H2 H3 H4 H5 HDn HRe HVi HIn HNx HD2 HC2 HCC3 HAT3 HD3 HK4 d3 d4 c3 c4 e3 e4 f3 f4 g3 g4 m3 m4 hlt
  go_wp2_with fail
  go_loopw [5] (fun x wr => ∃ kk : Int, -1 ≤ kk ∧ kk ≤ 18 ∧ x = .int .i64 kk ∧ Hid (AtB B w0 wr i st p st ss)) (fun x _ => (18 - intOf x).toNat)
  case atStart => exact ⟨-1, by omega, by omega, rfl, HS⟩
  case round =>
    clear HS
    obtain ⟨kk, hk1, hk2, rfl, HS⟩ := hrel
    by_cases h17 : kk ≤ 17
    · have hsum : IntKind.i64.wrap (kk + 1) = kk + 1 := IntWalk.i64_in _ (by omega)
      cases hk : idx kk with
      | none =>
        have HCh := Lib.hid (ab_chosen HS.out kk)
        have HRG := Lib.hid (fun w => drange_any kk w)
        have HCO := Lib.hid (show committedI st kk = none by simp only [committedI, plAt_none hk])
        rw [show chosenI st kk = ([], false) by simp [chosenI, plAt_none hk]] at HCh
        rw [hk] at HRG
        clear hk
        go_wp2_with fail
        refine HCh.out.mono ?_
        rintro e w2 ⟨u, rfl, hu2, hb2, hf2⟩
        obtain ⟨uo, uc, rfl⟩ := bat_form hb2
        have H2 := Lib.hid (HS.out.upd0 hu2)
        clear hu2 hb2 hf2 HCh HS
        go_wp2_with fail
        refine (ab_committed H2.out kk).mono ?_
        rintro e w3 ⟨⟨view, inst, seq, vb, vv, rs, vs⟩, rfl, hcp, -, h3⟩
        rw [HCO.out] at hcp ⊢
        simp only [Ct.cp, noCp, Option.getD_none, Cp.mk.injEq] at hcp
        obtain ⟨rfl, rfl, rfl, rfl, rfl⟩ := hcp
        simp only at h3
        obtain ⟨vo, vcp, rfl⟩ := vts_form (redR_out h3.ss_own.head)
        obtain ⟨bo, bcp, rfl⟩ := bat_form (batR_out h3.ss_own.drop.head)
        have H3 := Lib.hid (ab_box h3 (ctO 0 0 0 (.slice bo 0 bcp) (.slice vo 0 vcp)))
        clear h3 H2
        go_upto_region 8 with fail
        have hx := H3.out.ss_own
        obtain ⟨f0, f1, f2, f3, f4, fl, -⟩ := ct_cells hx.blk_out
        have HK := Lib.hid (keepCert_dec ⟨0, 0, 0, .slice bo 0 bcp, .slice vo 0 vcp, [], []⟩ noCt _ (by simp) (by simp) (by simp [noCt]) (by simp [noCt]) (batR_out hx.drop.drop.head) (redR_out hx.drop.head) (Reads.nil _ _) (Reads.nil _ _))
        clear hx
        generalize w3.alloc (ctO 0 0 0 (.slice bo 0 bcp) (.slice vo 0 vcp)) = w4 at *
        generalize w3.heap.size = b8 at *
        go_wp2_with fail
        refine (HRG.out _).mono ?_
        rintro e w' ⟨rfl, rfl⟩
        go_wp2_with fail
        refine HK.out.mono ?_
        rintro e w5 ⟨rfl, hu5⟩
        have H5 := Lib.hid (ab_drop (ab_drop (ab_drop (H3.out.upd0 hu5))))
        rw [decide_eq_true (show Ct.cp ⟨0, 0, 0, .slice bo 0 bcp, .slice vo 0 vcp, [], []⟩ = Ct.cp noCt from rfl)]
        clear hu5 H3 HK f0 f1 f2 f3 f4 fl
        go_wp2_with fail
        go_roundw
        case rel => exact ⟨kk + 1, by omega, by omega, by go_num, H5⟩
        case measure => simp [intOf]; omega
      | some k =>
        obtain ⟨hkl, hp, hseq⟩ := pl_of HN.out hk
        have hk16 := (idx_lt hk).1
        have HCh := Lib.hid (ab_chosen HS.out kk)
        have HRG := Lib.hid (fun w => drange_any kk w)
        have HCO := Lib.hid (show committedI st kk = if st.l[k].done then some st.l[k].dw else none by simp only [committedI, hp])
        rw [show chosenI st kk = (chosenS st.l[k].sl, st.l[k].sl.has) by simp [chosenI, hp]] at HCh
        rw [hk] at HRG
        clear hk hp
        generalize hnn : k + 1 = n at *
        have hn0 : (0 : Int) ≤ (n : Int) := by omega
        have hn17 : (n : Int) < 17 := by omega
        subst hseq
        go_wp2_with fail
        refine HCh.out.mono ?_
        rintro e w2 ⟨u, rfl, hu2, hb2, hf2⟩
        have hb2 : Bat w2 u (chosenS st.l[k].sl) := hb2
        obtain ⟨uo, uc, rfl⟩ := bat_form hb2
        have H2 := Lib.hid (ab_new HS.out (fun rs q => own_batR (q.upd0 hu2) hb2 (fun j hj => q.fresh (hf2 j (blkIf_sub hj)))))
        clear hu2 hb2 hf2 HCh HS
        go_wp2_with fail
        refine (ab_committed H2.out (n : Int)).mono ?_
        rintro e w3 ⟨⟨view, inst, seq, vb, vv, rs, vs⟩, rfl, hcp, ⟨hs1, hs2⟩, h3⟩
        simp only at h3 hs1 hs2
        obtain ⟨vo, vcp, rfl⟩ := vts_form (redR_out h3.ss_own.head)
        obtain ⟨bo, bcp, rfl⟩ := bat_form (batR_out h3.ss_own.drop.head)
        have H3 := Lib.hid (ab_box h3 (ctO view inst seq (.slice bo rs.length bcp) (.slice vo vs.length vcp)))
        have HCP := Lib.hid hcp
        clear h3 H2 hcp
        go_upto_region 8 with fail
        rw [HCO.out] at HCP
        obtain ⟨pb, a0, c0, ⟨view', inst', seq', tb, tv, rs', vs'⟩, a1, c1, a2, c2, ⟨q0, q1, q2⟩, q3, ⟨r1, r2, r3, r4, r5, r6⟩, s0, s1, s16, s5, s6, s7, s8, s9, hlt⟩ := ab_place H3.out n k hnn.symm hkl
        simp only at q1 q2 r3 r4 r5 r6 s5 s6 s7 s8 s9
        subst q0 q1 q2
        have hx := H3.out.ss_own
        obtain ⟨f0, f1, f2, f3, f4, fl, -⟩ := ct_cells hx.blk_out
        have HFB := Lib.hid hx.blk_out
        have HSA := Lib.hid (fun w' (hu : Upd [] _ w') => sameR_any (.slice uo (chosenS st.l[k].sl).length uc) (.slice a0 (chosenS st.l[k].sl).length c0) (chosenS st.l[k].sl) (chosenS st.l[k].sl) w' r2 r2 ((batR_out hx.drop.drop.drop.head).upd (M := []) hu (by simp)) (r1.upd (M := []) hu (by simp)))
        have HKC := Lib.hid (fun w' (hu : Upd [] _ w') => keepCert_dec ⟨view, inst, seq, .slice bo rs.length bcp, .slice vo vs.length vcp, rs, vs⟩ ⟨view', inst', seq', .slice a1 rs'.length c1, .slice a2 vs'.length c2, rs', vs'⟩ w' hs1 hs2 r4 r6 ((batR_out hx.drop.drop.head).upd (M := []) hu (by simp)) (Reads.upd (M := []) (redR_out hx.drop.head) hu (by simp)) (r3.upd (M := []) hu (by simp)) (Reads.upd (M := []) r5 hu (by simp)))
        have HQ3 := Lib.hid q3
        clear hx q3 r1 r3 r5
        have HIS := Lib.hid (show (committedI st (n : Int)).isSome = st.l[k].done by rw [HCO.out]; cases st.l[k].done <;> rfl)
        rw [HIS.out]
        generalize w3.alloc (ctO view inst seq (.slice bo rs.length bcp) (.slice vo vs.length vcp)) = w4 at *
        generalize w3.heap.size = b8 at *
        generalize hli : (chosenS st.l[k].sl).length = li at *
        generalize st.l[k].sl.has = bh at *
        cases hdn : st.l[k].done with
        | false =>
          rw [hdn] at s16
          clear HCO HIS HKC HQ3 HCP s5 s6 s7 s8 s9
          go_wp2_with fail
          refine (HRG.out _).mono ?_
          rintro e w' ⟨rfl, rfl⟩
          go_wp2_with fail
          refine Mix.wp_text2 (by kernel_rfl) (by kernel_rfl) ?_
          go_wp2_with fail
          refine (HSA.out _ (Upd.refl _ _).drew).mono ?_
          rintro e w5 ⟨rfl, hu5⟩
          rw [decide_true]
          have hu5' : Upd [] w4 w5 := (Upd.refl _ _).drew.trans hu5
          have x16 := (upd_cell0 hu5' hlt).trans s16
          have H5 := Lib.hid (ab_drop (ab_drop (ab_drop (ab_drop (H3.out.upd0 hu5')))))
          clear hu5 hu5' H3 HSA s0 s1 s16 f0 f1 f2 f3 f4 fl HFB hlt
          go_wp2_with fail
          refine ⟨by rfl, ?_⟩
          go_wp2_with fail
          go_roundw
          case rel => exact ⟨(n : Int) + 1, by omega, by omega, by go_num, H5⟩
          case measure => simp [intOf]; omega
        | true =>
          rw [hdn] at s16
          rw [hdn] at HCP
          have HEQ := Lib.hid (show Ct.cp ⟨view, inst, seq, .slice bo rs.length bcp, .slice vo vs.length vcp, rs, vs⟩ = Ct.cp ⟨view', inst', seq', .slice a1 rs'.length c1, .slice a2 vs'.length c2, rs', vs'⟩ by rw [HCP.out, HQ3.out]; rfl)
          clear HCO HIS HQ3 HCP
          go_wp2_with fail
          refine (HRG.out _).mono ?_
          rintro e w' ⟨rfl, rfl⟩
          go_wp2_with fail
          refine Mix.wp_text2 (by kernel_rfl) (by kernel_rfl) ?_
          go_wp2_with fail
          refine (HSA.out _ (Upd.refl _ _).drew).mono ?_
          rintro e w5 ⟨rfl, hu5⟩
          rw [decide_true]
          have hu5' : Upd [] w4 w5 := (Upd.refl _ _).drew.trans hu5
          have x16 := (upd_cell0 hu5' hlt).trans s16
          have x5 := (upd_cell0 hu5' hlt).trans s5
          have x6 := (upd_cell0 hu5' hlt).trans s6
          have x7 := (upd_cell0 hu5' hlt).trans s7
          have x8 := (upd_cell0 hu5' hlt).trans s8
          have x9 := (upd_cell0 hu5' hlt).trans s9
          obtain ⟨g0, g1, g2, g3, g4, gl, -⟩ := ct_cells ((hu5'.block _ fl (by simp)).trans HFB.out)
          have HU5 := Lib.hid hu5'
          clear hu5 hu5' HSA s0 s1 s16 s5 s6 s7 s8 s9 f0 f1 f2 f3 f4 fl HFB hlt
          go_wp2_with fail
          refine (HKC.out _ HU5.out).mono ?_
          rintro e w6 ⟨rfl, hu6⟩
          rw [decide_eq_true HEQ.out]
          have H5 := Lib.hid (ab_drop (ab_drop (ab_drop (ab_drop (H3.out.upd0 (HU5.out.trans hu6))))))
          clear hu6 H3 HKC HU5 x16 x5 x6 x7 x8 x9 g0 g1 g2 g3 g4 gl
          go_wp2_with fail
          refine ⟨by rfl, ?_⟩
          go_wp2_with fail
          go_roundw
          case rel => exact ⟨(n : Int) + 1, by omega, by omega, by go_num, H5⟩
          case measure => simp [intOf]; omega
    · have hkI : decide (kk ≤ 17) = false := by simp; omega
      go_wp2_with fail
      go_loopw [10] (fun x wx => ∃ k : Nat, k ≤ 5 ∧ x = .int .i64 k ∧ Hid (AtB B w0 wx i st p st ss)) (fun x _ => 5 - (intOf x).toNat)
      case atStart => exact ⟨0, by omega, rfl, HS⟩
      case round =>
        clear HS
        obtain ⟨k, hk5, rfl, HS⟩ := hrel
        by_cases hlt5 : k < 5
        · have hkI5 : (k : Int) < 5 := by omega
          have hbl := bt_len (k : Int)
          have HBT := Lib.hid (batch15_any (k : Int))
          generalize bt (k : Int) = bl at *
          go_wp2_with fail
          refine (HBT.out _).mono ?_
          rintro e w2 ⟨v2, rfl, hu2, ho2⟩
          obtain ⟨ao, ac, rfl⟩ := bat_form (own_reads ho2)
          have H2 := Lib.hid (ab_bat HS.out hu2 ho2)
          clear hu2 ho2 HS HBT
          go_wp2_with fail
          go_loopw [138] (fun x wx => ∃ r : Nat, r ≤ bl.length ∧ x = .int .i64 r ∧ Hid (AtB B w0 wx i st p st (batR (.slice ao bl.length ac) bl :: ss))) (fun x _ => bl.length - (intOf x).toNat)
          case atStart => exact ⟨0, by omega, rfl, H2⟩
          case round =>
            clear H2
            obtain ⟨r, hr, rfl, H2⟩ := hrel
            by_cases hltr : r < bl.length
            · have hrI : (r : Int) < (bl.length : Int) := by omega
              have hbat := batR_out H2.out.drew.ss_own.head
              obtain ⟨ao', ac', e, -, -, -, -, h5⟩ := hbat
              cases e
              obtain ⟨b, o, rfl, hlb, hc⟩ := h5 (by omega)
              obtain ⟨q0, q1, q2, q3, q4, q5⟩ := bat_cells hc r bl[r] (by simp)
              have HX := Lib.hid (ab_used H2.out.drew bl[r])
              clear hc h5
              go_wp2_with fail
              go_region_held3 (fun w' => w'.cell? ⟨b, o + r * 6, none⟩ = some (.int .i64 bl[r].client) ∧ w'.cell? ⟨b, o + r * 6 + 1, none⟩ = some (.int .i64 bl[r].time) ∧ w'.cell? ⟨b, o + r * 6 + 2, none⟩ = some (.int .i64 bl[r].kind) ∧ w'.cell? ⟨b, o + r * 6 + 3, none⟩ = some (.int .i64 bl[r].key) ∧ w'.cell? ⟨b, o + r * 6 + 4, none⟩ = some (.int .i64 bl[r].val) ∧ w'.cell? ⟨b, o + r * 6 + 5, none⟩ = some (.int .i64 bl[r].sl))
                (first | (with_reducible exact ⟨q0, q1, q2, q3, q4, q5⟩) | (with_reducible exact ⟨e0, e1, e2, e3, e4, e5⟩) | (with_reducible exact ⟨g0, g1, g2, g3, g4, g5⟩))
                (first
                  | (go_at_call 43; refine HX.out.mono ?_; rintro e w3 ⟨rfl, hu3⟩; have H3 := Lib.hid (H2.out.drew.upd0 hu3); have e0 := (upd_cell0 hu3 hlb).trans q0; have e1 := (upd_cell0 hu3 hlb).trans q1; have e2 := (upd_cell0 hu3 hlb).trans q2; have e3 := (upd_cell0 hu3 hlb).trans q3; have e4 := (upd_cell0 hu3 hlb).trans q4; have e5 := (upd_cell0 hu3 hlb).trans q5; have hl3 := Nat.lt_of_lt_of_le hlb hu3.size; clear hu3)
                  | (go_at_call 83; refine (ab_dused H3.out bl[r]).mono ?_; rintro e w4 ⟨rfl, hu4⟩; have H4 := Lib.hid (H3.out.upd0 hu4); have g0 := (upd_cell0 hu4 hl3).trans e0; have g1 := (upd_cell0 hu4 hl3).trans e1; have g2 := (upd_cell0 hu4 hl3).trans e2; have g3 := (upd_cell0 hu4 hl3).trans e3; have g4 := (upd_cell0 hu4 hl3).trans e4; have g5 := (upd_cell0 hu4 hl3).trans e5; clear hu4))
              all_goals
                go_wp2_with fail
                go_roundw
                case rel => exact ⟨r + 1, by omega, by go_num, H4⟩
                case measure => simp [intOf]; omega
            · have hrI : decide ((r : Int) < (bl.length : Int)) = false := by simp; omega
              go_wp2_with fail
              go_roundw
              case rel => exact ⟨k + 1, by omega, by go_num, Lib.hid (ab_drop H2.out)⟩
              case measure => simp [intOf]; omega
        · have hkI5 : decide ((k : Int) < 5) = false := by simp; omega
          go_wp2_with fail
          go_ret
          exact ⟨rfl, HS.out⟩

end
end Go.Proofs.Ytdeadekeffficaa
