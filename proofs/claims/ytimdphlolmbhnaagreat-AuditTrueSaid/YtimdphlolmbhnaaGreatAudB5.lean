/- Parts of the proof, one behind the other. -/
import Derived.Test.YtimdphlolmbhnaaGreatAudB4
import Derived.Deep.MidRow

/- wp_text, where a slot is written that an earlier 'move' has looked at ('x = append(x, ..)'). -/
namespace Go.Mix
open Go

/-- It only computes, whatever the frame holds. -/
def calm (o : Oper) : Bool :=
  match o.op with
  | .move _ | .assign _ | .extract _ _ | .pick _ _ _ | .field _ _ _ | .indexAddr _ _ _ | .index _ _ _ | .slice _ _ _ _ _ | .makeInterface _ _ => true
  | _ => false

/-- No operation writes a slot that this or an earlier one looks at, but where the earlier one only computes whatever it sees. -/
def stillB2 (ops : Array Oper) : Bool :=
  (List.range ops.size).all fun i => (List.range ops.size).all fun j => decide (j < i) || match ops[i]?, ops[j]? with
    | some oi, some oj => calm oi || match oj.dst with
      | some d => !(oi.looksAt ops).contains d
      | none => true
    | _, _ => true

section
variable {P : Program} {ops : Array Oper} {Q : Exit → Act → World → Prop}

theorem calm_pure {a : Act} {o : Oper} (h : calm o = true) : pureOp P a o = true := by
  obtain ⟨dst, op, type, pos, after, guard⟩ := o
  unfold calm at h
  unfold pureOp
  dsimp only at h ⊢
  split at h <;> first | rfl | cases h

theorem stillB2_spec (h : stillB2 ops = true) {i j : Nat} {oi oj : Oper} (hc : calm oi = false) (hi : ops[i]? = some oi) (hj : ops[j]? = some oj) (hij : i ≤ j) : ∀ t ∈ oi.looksAt ops, oj.dst ≠ some t := by
  intro t ht e
  simp only [stillB2, List.all_eq_true, List.mem_range] at h
  have := h i (Array.getElem?_eq_some_iff.1 hi).1 j (Array.getElem?_eq_some_iff.1 hj).1
  rw [hi, hj] at this
  simp only [e, hc, Bool.false_or, Bool.or_eq_true, decide_eq_true_eq, Bool.not_eq_true', List.contains_eq_mem, decide_eq_false_iff_not] at this
  rcases this with h | h
  · omega
  · exact h ht

theorem text_mix2 (hst : stillB2 ops = true) : ∀ (l : List Oper) (k : Nat) (a : Act) (w : World), ops.toList.drop k = l → wpList P ops (Fin P ops Q) l a w → mix P ops (fun _ => True) Q (autoC ops) (List.range' k l.length) a w := by
  intro l
  induction l with
  | nil => intro k a w _ h; exact h.2
  | cons o l ih =>
    intro k a w hl h
    have hk : ops[k]? = some o := by
      have : (ops.toList.drop k)[0]? = some o := by rw [hl]; rfl
      rw [List.getElem?_drop, Array.getElem?_toList] at this
      simpa using this
    have hl' : ops.toList.drop (k + 1) = l := by
      rw [← List.drop_drop, hl]; rfl
    have hlater : ∀ o' ∈ o :: l, ∃ j, k ≤ j ∧ ops[j]? = some o' := by
      intro o' ho'
      rw [← hl] at ho'
      obtain ⟨j, hj⟩ := List.getElem?_of_mem ho'
      rw [List.getElem?_drop, Array.getElem?_toList] at hj
      exact ⟨k + j, by omega, hj⟩
    have hout := list_out _ _ _ h
    have h := wpList_cons_fin h
    rw [List.length_cons, List.range'_succ]
    refine ⟨o, hk, ?_⟩
    have hc : autoC ops k = clsOf o := by simp [autoC, hk]
    rw [hc]
    split at h
    · rename_i hw
      by_cases hcl : clsOf o ≤ 1
      · unfold stepMix
        rw [if_pos hcl]
        -- what it runs to
        have hrun : ∃ v, (∀ w', (if clsOf o = 0 then True else w' = w) → (execOp a.eval o).run P w' = .ok (.value v) w') ∧ wpList P ops (Fin P ops Q) l (a.put o.dst v) w := by
          unfold Oper.wp at h
          cases hr : (execOp a.eval o).run P w with
          | halt x w' => rw [hr] at h; cases x <;> simp only [Oper.upon] at h; exact h.elim
          | ok n w' =>
            by_cases hc0 : clsOf o = 0
            · have hpure : pureOp P a o = true := by
               by_cases hcm : calm o = true
               · exact calm_pure hcm
               obtain ⟨a', w'', hv, _, hsame⟩ := hout
               have hlook : ∀ t ∈ o.looksAt ops, a'.tmps[t]? = a.tmps[t]? := fun t ht => hsame t fun o' ho' => by
                 obtain ⟨j, hj, hoj⟩ := hlater o' ho'
                 exact stillB2_spec hst (by simpa using hcm) hk hoj hj t ht
               refine pureOp_of (eval_of hlook) ?_
               simp only [okVals, List.all_eq_true, List.mem_range] at hv
               have h1 := hv k (Array.getElem?_eq_some_iff.1 hk).1
               rw [hk] at h1
               simp only [hc0, bne_self_eq_false, Bool.false_or, Bool.or_eq_true, Bool.not_eq_true', wanted_of hlook, hw] at h1
               rcases h1 with h1 | h1
               · cases h1
               · exact h1
              obtain ⟨rfl, v, rfl, hall⟩ := pure_ind hpure _ _ _ hr
              rw [hr] at h
              exact ⟨v, fun w2 _ => hall w2, h⟩
            · have hload : ∃ t x, o.op = .load t x := by
                have h1 : clsOf o = 1 := by omega
                unfold clsOf at h1
                split at h1 <;> first | (rename_i heq; exact ⟨_, _, heq⟩) | omega
              obtain ⟨t, x, hop⟩ := hload
              obtain ⟨rfl, v, rfl⟩ := load_value hop hr
              rw [hr] at h
              refine ⟨v, fun w2 h2 => ?_, h⟩
              rw [if_neg hc0] at h2
              subst h2
              exact hr
        obtain ⟨v, h1, h2⟩ := hrun
        exact ⟨v, .inl ⟨hw, h1⟩, ih (k + 1) _ _ hl' h2⟩
      · unfold stepMix
        rw [if_neg hcl]
        unfold Loud
        rw [if_pos hw]
        exact Oper.wp_post (Q := NoQ) (fun a' w' h' => ⟨trivial, ih (k + 1) _ _ hl' h'⟩) h
    · rename_i hw
      have hw' : Region.wanted o (yielded ops a.tmps) = false := by simpa using hw
      by_cases hcl : clsOf o ≤ 1
      · unfold stepMix
        rw [if_pos hcl]
        exact ⟨undef, .inr ⟨hw', rfl⟩, ih (k + 1) _ _ hl' h⟩
      · unfold stepMix
        rw [if_neg hcl]
        unfold Loud
        rw [if_neg (by simp [hw'])]
        exact ⟨trivial, ih (k + 1) _ _ hl' h⟩

theorem wp_region_text2 {id : Nat} {a : Act} {w : World} (hm : P.follows .mixedOrders = true) (hok : (okRegion ops (autoC ops) && stillB2 ops) = true)
    (h : wpList P ops (Fin P ops Q) ops.toList a w.drew) : (Code.region id ops true).wp P Q a w := by
  simp only [Bool.and_eq_true] at hok
  refine wp_region_mix (fun _ => True) (autoC ops) hm hok.1 trivial ?_
  have := text_mix2 hok.2 ops.toList 0 a w.drew rfl h
  rw [Array.length_toList, ← List.range_eq_range'] at this
  exact this

/-- The rule, the operations written out. -/
theorem wp_text2 {id : Nat} {l : List Oper} {a : Act} {w : World} (hm : P.follows .mixedOrders = true) (hok : (okRegion l.toArray (autoC l.toArray) && stillB2 l.toArray) = true)
    (h : wpList P l.toArray (Fin P l.toArray Q) l a w.drew) : (Code.region id l.toArray true).wp P Q a w := wp_region_text2 hm hok h

end
end Go.Mix

/- inst: fresh, cert. -/
namespace Go.Proofs.YtimdphlolmbhnaaGreat
open Go.RowKit Go.Heap

abbrev ctO (view inst seq : Int) (vb vv : Value) : Obj := .cells #[.int .i64 view, .int .i64 inst, .int .i64 seq, vb, vv] 147 (0, 0)

theorem ct_cells {w : World} {b : Nat} {view inst seq : Int} {vb vv : Value} (h : w.heap[b]? = some (ctO view inst seq vb vv)) : w.cell? ⟨b, 0, none⟩ = some (.int .i64 view) ∧ w.cell? ⟨b, 1, none⟩ = some (.int .i64 inst) ∧ w.cell? ⟨b, 2, none⟩ = some (.int .i64 seq) ∧
    w.cell? ⟨b, 3, none⟩ = some vb ∧ w.cell? ⟨b, 4, none⟩ = some vv ∧ b < w.heap.size ∧ ∀ o, w.frozen? ⟨b, o, none⟩ = false :=
  ⟨by rw [block_cell h]; rfl, by rw [block_cell h]; rfl, by rw [block_cell h]; rfl, by rw [block_cell h]; rfl, by rw [block_cell h]; rfl, block_lt h, block_frozen h⟩

/-- What fresh gives: the same in new memory. -/
def FreshP (w : World) (c : Ct) (e : Ending) (w' : World) : Prop :=
  ∃ c' : Ct, e = .returned (ctAgg c') ∧ c'.cp = c.cp ∧ Upd [] w w' ∧ Bat w' c'.vb c'.rs ∧ Vts w' c'.vv c'.vs ∧ (∀ k ∈ blkOf c'.vb, w.heap.size ≤ k) ∧ ∀ k ∈ blkOf c'.vv, w.heap.size ≤ k

theorem vsCells_one (l : Vs) : ∀ u ∈ vsCells l, u.oneCell' = true := by
  intro u hu
  simp only [vsCells, List.mem_flatMap] at hu
  obtain ⟨r, _, h⟩ := hu
  simp only [List.mem_cons, List.not_mem_nil, or_false] at h
  rcases h with rfl | rfl <;> rfl

theorem row_shape {w : World} {B E sz n : Nat} {v : Value} {xs : List Value} (h : w.ownsRow B E sz v n xs) : ∃ ao cap, v = .slice ao n cap := by
  rcases h.2 with ⟨rfl, rfl⟩ | ⟨g, cap, cur, rfl, _⟩
  · exact ⟨none, 0, rfl⟩
  · exact ⟨_, cap, rfl⟩
theorem owns_reads {w : World} {B E sz n : Nat} {v : Value} {xs : List Value} (h : w.ownsRow B E sz v n xs) : Reads w v sz n xs := by
  rcases h.2 with ⟨rfl, rfl⟩ | ⟨g, cap, cur, rfl, _⟩
  · have : xs = [] := List.eq_nil_of_length_eq_zero (by simpa using h.1)
    subst this
    exact Reads.nil _ _
  · exact Reads.of_own h
theorem owns_new {w : World} {B E sz n : Nat} {v : Value} {xs : List Value} (h : w.ownsRow B E sz v n xs) : ∀ k ∈ blkOf v, B ≤ k ∧ k < w.heap.size := by
  intro k hk
  rcases h.2 with ⟨rfl, rfl⟩ | ⟨g, cap, cur, rfl, hb, hg, _⟩
  · simp [blkOf] at hk
  · simp [blkOf] at hk; subst hk; exact ⟨hb, block_lt hg⟩

set_option maxHeartbeats 1000000 in
theorem fresh_ct (c : Ct) (w : World) (hb : Bat w c.vb c.rs) (hbn : c.rs.length ≤ 100000) (hv : Vts w c.vv c.vs) (hvn : c.vs.length ≤ 100000) :
    Calls Tryz.prog 111 #[ctAgg c] w (FreshP w c) := by
  obtain ⟨i0, hi, hz0, hz1, hz2⟩ := info_parts Tryz.infoReq
  obtain ⟨j0, hj, hy0, hy1, hy2⟩ := info_parts Tryz.infoVote
  obtain ⟨view, inst, seq, vb, vv, rs, vs⟩ := c
  simp only at hb hbn hv hvn
  obtain ⟨ao, cap, rfl⟩ := bat_form hb
  obtain ⟨co, cav, rfl⟩ := vts_form hv
  have h1 := (((((Own.start (Below.refl w.heap.size w) (Nat.le_refl _)).red hb (by simp [Ms])).red hv (by simp [Ms, redR, imm])).box (ctO view inst seq (.slice ao rs.length cap) (.slice co vs.length cav))).box (ctO 0 0 0 (.slice none 0 0) (.slice none 0 0)))
  simp only [hs_alloc] at h1
  have H1 := Lib.hid h1
  clear hb hv h1
  go_enter Tryz.func111, Tryz.ntmps111
  go_upto_region 1 with fail
  generalize (w.alloc (ctO view inst seq (.slice ao rs.length cap) (.slice co vs.length cav))).alloc (ctO 0 0 0 (.slice none 0 0) (.slice none 0 0)) = w1 at *
  obtain ⟨f0, f1, f2, f3, f4, fl, fz⟩ := ct_cells H1.out.drop.blk_out
  clear fz
  go_wp2_with (at_builtin; refine wpList_fresh rfl (.tmp 4) 33 rfl 38 i0 (.agg #[.int .i64 0, .int .i64 0, .int .i64 0, .int .i64 0, .int .i64 0, .int .i64 0]) 6 48 Tryz.underlying33 hi hz0 hz1 hz2 rfl (by decide) _ _ _ rfl (redR_out H1.out.drop.drop.drop.head) (rqsCells_one rs) (by omega) ?_)
  intro v2 w2 hown2 hu2
  obtain ⟨ao2, cap2, rfl⟩ := row_shape hown2
  have H2 := Lib.hid ((H1.out.row1 hu2 hown2).swap.rot)
  clear f0 f1 f2 f3 f4 fl hown2 hu2 H1
  obtain ⟨f0, f1, f2, f3, f4, fl, fz⟩ := ct_cells H2.out.blk_out
  have fz3 := fz 3
  clear fz
  go_upto_region 2 with fail
  have H3 := Lib.hid (H2.out.store 3 (.slice ao2 rs.length cap2))
  generalize w2.setCell ⟨w.heap.size, 3, none⟩ (.slice ao2 rs.length cap2) = w3 at *
  clear f0 f1 f2 f3 f4 fl fz3 H2
  obtain ⟨f0, f1, f2, f3, f4, fl, fz⟩ := ct_cells H3.out.blk_out
  clear fz
  go_wp2_with (at_builtin; refine wpList_fresh rfl (.tmp 8) 145 rfl 307 j0 (.agg #[.int .i64 0, .int .i64 0]) 2 16 Tryz.underlying145 hj hy0 hy1 hy2 rfl (by decide) _ _ _ rfl (redR_out H3.out.drop.drop.drop.head) (vsCells_one vs) (by omega) ?_)
  intro v4 w4 hown4 hu4
  obtain ⟨ao4, cap4, rfl⟩ := row_shape hown4
  have H4 := Lib.hid ((H3.out.row1 hu4 hown4).swap)
  clear f0 f1 f2 f3 f4 fl hown4 hu4 H3
  obtain ⟨f0, f1, f2, f3, f4, fl, fz⟩ := ct_cells H4.out.blk_out
  have fz4 := fz 4
  clear fz
  go_upto_region 3 with fail
  have H5 := Lib.hid (H4.out.store 4 (.slice ao4 vs.length cap4))
  generalize w4.setCell ⟨w.heap.size, 4, none⟩ (.slice ao4 vs.length cap4) = w5 at *
  clear f0 f1 f2 f3 f4 fl fz4 H4
  obtain ⟨f0, f1, f2, f3, f4, fl, fz⟩ := ct_cells H5.out.blk_out
  obtain ⟨g0, g1, g2, g3, g4, gl, gz⟩ := ct_cells H5.out.drop.drop.blk_out
  have gz0 := gz 0
  have gz1 := gz 1
  have gz2 := gz 2
  have gz3 := gz 3
  have gz4 := gz 4
  clear fz gz
  go_wp2_with fail
  have H6 := Lib.hid ((((((H5.out.rot.store 0 (.int .i64 view)).store 1 (.int .i64 inst)).store 2 (.int .i64 seq)).store 3 (.slice ao2 rs.length cap2)).store 4 (.slice ao4 vs.length cap4)))
  generalize ((((w5.setCell ⟨w.heap.size + 1, 0, none⟩ (.int .i64 view)).setCell ⟨w.heap.size + 1, 1, none⟩ (.int .i64 inst)).setCell ⟨w.heap.size + 1, 2, none⟩ (.int .i64 seq)).setCell ⟨w.heap.size + 1, 3, none⟩ (.slice ao2 rs.length cap2)).setCell ⟨w.heap.size + 1, 4, none⟩ (.slice ao4 vs.length cap4) = w6 at *
  clear f0 f1 f2 f3 f4 fl g0 g1 g2 g3 g4 gl gz0 gz1 gz2 gz3 gz4 H5
  obtain ⟨f0, f1, f2, f3, f4, fl, fz⟩ := ct_cells H6.out.blk_out
  have r1 := ownR_owns H6.out.drop.drop.head
  have r2 := ownR_owns H6.out.drop.drop.drop.head
  refine bodyPost_ret (v := ctAgg ⟨view, inst, seq, .slice ao2 rs.length cap2, .slice ao4 vs.length cap4, rs, vs⟩) (by simp [results, Tryz.results111, go_sem, f0, f1, f2, f3, f4]) rfl ⟨⟨view, inst, seq, .slice ao2 rs.length cap2, .slice ao4 vs.length cap4, rs, vs⟩, rfl, rfl, Upd.of_below H6.out.below, owns_reads r2, owns_reads r1, ?_, ?_⟩
  · exact (H6.out.drop.drop.drop.all _ List.mem_cons_self).2
  · exact (H6.out.drop.drop.all _ List.mem_cons_self).2

end Go.Proofs.YtimdphlolmbhnaaGreat

/- Ledgers of the program: entries, service, replies. -/
namespace Go.Proofs.YtimdphlolmbhnaaGreat
open Go.RowKit Go.Heap

structure En where
  rq : Rq
  res : Int
deriving DecidableEq
def enCells (e : En) : List Value := [.int .i64 e.rq.client, .int .i64 e.rq.time, .int .i64 e.rq.kind, .int .i64 e.rq.key, .int .i64 e.rq.val, .int .i64 e.rq.sl, .int .i64 e.res]
abbrev enAgg (e : En) : Value := .agg #[.int .i64 e.rq.client, .int .i64 e.rq.time, .int .i64 e.rq.kind, .int .i64 e.rq.key, .int .i64 e.rq.val, .int .i64 e.rq.sl, .int .i64 e.res]
abbrev ensCells (l : List En) : List Value := l.flatMap enCells
theorem ens_len (l : List En) : (ensCells l).length = l.length * 7 := flat_length (cells := enCells) (sz := 7) (fun _ => rfl) l
theorem ens_one (l : List En) : ∀ u ∈ ensCells l, u.oneCell' = true := by
  intro u hu
  simp only [ensCells, List.mem_flatMap] at hu
  obtain ⟨r, _, h⟩ := hu
  simp only [enCells, List.mem_cons, List.not_mem_nil, or_false] at h
  rcases h with rfl | rfl | rfl | rfl | rfl | rfl | rfl <;> rfl
def scCells (c : Bool × Int) : List Value := [.bool c.1, .int .i64 c.2]
abbrev stCells (l : List (Bool × Int)) : List Value := l.flatMap scCells
theorem st_len (l : List (Bool × Int)) : (stCells l).length = l.length * 2 := flat_length (cells := scCells) (sz := 2) (fun _ => rfl) l
theorem st_one (l : List (Bool × Int)) : ∀ u ∈ stCells l, u.oneCell' = true := by
  intro u hu
  simp only [stCells, List.mem_flatMap] at hu
  obtain ⟨r, _, h⟩ := hu
  simp only [scCells, List.mem_cons, List.not_mem_nil, or_false] at h
  rcases h with rfl | rfl <;> rfl
theorem rp_len (l : List (Int × Int)) : (l.flatMap rpCells).length = l.length * 2 := flat_length (cells := rpCells) (sz := 2) (fun _ => rfl) l
theorem rp_one (l : List (Int × Int)) : ∀ u ∈ l.flatMap rpCells, u.oneCell' = true := by
  intro u hu
  simp only [List.mem_flatMap] at hu
  obtain ⟨r, _, h⟩ := hu
  simp only [rpCells, List.mem_cons, List.not_mem_nil, or_false] at h
  rcases h with rfl | rfl <;> rfl
abbrev st0 : List (Bool × Int) := List.replicate 64 (false, 0)
theorem Tryz.zst : Tryz.zeroCells156.toList = stCells st0 := by kernel_rfl

structure Lg where
  p : Nat
  s : Nat
  c : Nat
  g : Nat
  cap : Nat
  v : Value
  clients : Int
  es : List En
  st : List (Bool × Int)
  rp : List (Int × Int)
abbrev lgO (clients : Int) (v : Value) (s c : Nat) : Obj := .cells #[.int .i64 clients, v, .pointer (some ⟨s, 0, none⟩), .pointer (some ⟨c, 0, none⟩)] 96 (0, 0)
abbrev chO (g n cap : Nat) : Obj := .cells #[.slice (some ⟨g, 0, none⟩) n cap] 151 (0, 0)
abbrev enR (v : Value) (es : List En) : Res := ownR 40 7 v es.length (ensCells es)
abbrev stR (s : Nat) (st : List (Bool × Int)) : Res := segR s 156 (stCells st)
abbrev rpR (g : Nat) (l : List (Int × Int)) : Res := segR g 158 (l.flatMap rpCells)
abbrev lgL (x : Lg) : List Res := [blk x.p (lgO x.clients x.v x.s x.c), enR x.v x.es, stR x.s x.st, blk x.c (chO x.g x.rp.length x.cap), rpR x.g x.rp]
structure LgOk (x : Lg) : Prop where
  st : x.st.length = 64
  rp1 : 1 ≤ x.rp.length
  rp4 : x.rp.length ≤ 4
  cap : x.rp.length ≤ x.cap ∧ x.cap ≤ maxLen
  es : x.es.length ≤ 100000
/-- What a ledger says. -/
structure Lp where
  clients : Int
  es : List En
  st : List (Bool × Int)
  rp : List (Int × Int)
def Lg.lp (x : Lg) : Lp := ⟨x.clients, x.es, x.st, x.rp⟩
def newL (n : Nat) : Lp := ⟨n, [], st0, List.replicate n (0, 0)⟩

section
variable {B : Nat} {w0 W W' : World} {ss : List Res} {x : Lg}

theorem Tryz.infoEn : (Tryz.prog.info? 40).map (fun i => (i.zero, i.size, i.bytes)) = some (some (.agg #[.int .i64 0, .int .i64 0, .int .i64 0, .int .i64 0, .int .i64 0, .int .i64 0, .int .i64 0]), 7, 56) := by kernel_rfl

theorem lg_cells (h : Own B w0 W (lgL x ++ ss)) : W.cell? ⟨x.p, 0, none⟩ = some (.int .i64 x.clients) ∧ W.cell? ⟨x.p, 1, none⟩ = some x.v ∧ W.cell? ⟨x.p, 2, none⟩ = some (.pointer (some ⟨x.s, 0, none⟩)) ∧ W.cell? ⟨x.p, 3, none⟩ = some (.pointer (some ⟨x.c, 0, none⟩)) := by
  have hb := h.blkAt 0 (b := x.p) (o := lgO x.clients x.v x.s x.c) rfl
  exact ⟨by rw [block_cell hb]; rfl, by rw [block_cell hb]; rfl, by rw [block_cell hb]; rfl, by rw [block_cell hb]; rfl⟩

set_option maxHeartbeats 400000 in
theorem ledger_new (n : Nat) (h1 : 1 ≤ n) (h4 : n ≤ 4) (h : Own B w0 W ss) :
    Calls Tryz.prog 28 #[.int .i64 n] W fun e w' => ∃ x : Lg, e = .returned (.tuple #[.pointer (some ⟨x.p, 0, none⟩), .int .i64 0]) ∧ LgOk x ∧ x.lp = newL n ∧ Own B w0 w' (lgL x ++ ss) := by
  have HC := Lib.hid (cache_new n h1 h4 h)
  clear h
  go_enter Tryz.func28, Tryz.ntmps28
  go_wp2_with fail
  refine HC.out.mono ?_
  rintro e w1 ⟨p, g, rfl, ho⟩
  have HS := Lib.hid (store_new ho)
  clear ho HC
  go_wp2_with fail
  refine HS.out.mono ?_
  rintro e w2 ⟨s, rfl, ho⟩
  have H2 := Lib.hid (own_toSeg ho Tryz.zst)
  clear ho HS
  go_wp2_with fail
  go_ret2
  have h3 := ((H2.out.row0 (E := 40) (sz := 7))).boxAt (lgO n (.slice none 0 0) s p) rfl
  refine ⟨⟨w2.heap.size, s, p, g, n, .slice none 0 0, n, [], st0, List.replicate n (0, 0)⟩, rfl, ⟨by simp, by simpa using h1, by simpa using h4, ⟨by simp, by show n ≤ maxLen; unfold maxLen; omega⟩, by simp⟩, rfl, ?_⟩
  exact h3

set_option maxHeartbeats 400000 in
theorem ledger_all (h : Own B w0 W (lgL x ++ ss)) (hk : LgOk x) :
    Calls Tryz.prog 72 #[.pointer (some ⟨x.p, 0, none⟩)] W fun e w' => ∃ v, e = .returned v ∧ Own B w0 w' (enR v x.es :: (lgL x ++ ss)) := by
  obtain ⟨i0, hi, hz0, hz1, hz2⟩ := info_parts Tryz.infoEn
  obtain ⟨-, c1, -, -⟩ := lg_cells h
  have h5 := hk.es
  have H := Lib.hid h
  have hr := owns_reads (ownR_owns (h.get 1 (r := enR x.v x.es) rfl))
  clear h
  go_enter Tryz.func72, Tryz.ntmps72
  go_wp2_with (at_builtin; refine wpList_fresh rfl (.tmp 6) 29 rfl 40 i0 (.agg #[.int .i64 0, .int .i64 0, .int .i64 0, .int .i64 0, .int .i64 0, .int .i64 0, .int .i64 0]) 7 56 Tryz.underlying29 hi hz0 hz1 hz2 rfl (by decide) _ _ _ rfl hr (ens_one x.es) (by omega) ?_)
  intro v w' ho hu
  have H2 := Lib.hid (H.out.row1 hu ho)
  clear ho hu
  go_wp2_with fail
  go_ret
  exact ⟨v, rfl, H2.out⟩

set_option maxHeartbeats 400000 in
theorem cache_clone (h : Own B w0 W (lgL x ++ ss)) (hk : LgOk x) :
    Calls Tryz.prog 109 #[.pointer (some ⟨x.c, 0, none⟩)] W fun e w' => ∃ p g cap, e = .returned (.pointer (some ⟨p, 0, none⟩)) ∧ x.rp.length ≤ cap ∧ cap ≤ maxLen ∧ Own B w0 w' (blk p (chO g x.rp.length cap) :: rpR g x.rp :: (lgL x ++ ss)) := by
  obtain ⟨i0, hi, hz0, hz1, hz2⟩ := info_parts Tryz.infoRp
  have c0 : W.cell? ⟨x.c, 0, none⟩ = some (.slice (some ⟨x.g, 0, none⟩) x.rp.length x.cap) := by rw [block_cell (h.blkAt 3 (b := x.c) (o := chO x.g x.rp.length x.cap) rfl)]; rfl
  have hr4 := hk.rp4
  have hr1 := hk.rp1
  have H := Lib.hid h
  have hr : Reads W (.slice (some ⟨x.g, 0, none⟩) x.rp.length x.cap) 2 x.rp.length (x.rp.flatMap rpCells) := by
    obtain ⟨q1, q2, -⟩ := segR_at (h.get 4 (r := rpR x.g x.rp) rfl)
    exact ⟨_, _, rfl, hk.cap.1, hk.cap.2, rp_len _, (fun e => by cases e), fun _ => ⟨x.g, 0, rfl, q1, fun j hj => by rw [Nat.zero_add]; exact q2 j (by rw [rp_len]; exact hj)⟩⟩
  clear h
  go_enter Tryz.func109, Tryz.ntmps109
  go_wp2_with (at_builtin; refine wpList_fresh rfl (.tmp 6) 149 rfl 158 i0 (.agg #[.int .i64 0, .int .i64 0]) 2 16 Tryz.underlying149 hi hz0 hz1 hz2 rfl (by decide) _ _ _ rfl hr (rp_one x.rp) (by omega) ?_)
  intro v w' ho hu
  have h2 := H.out.row1 hu ho
  have hsh : ∃ g cap, v = .slice (some ⟨g, 0, none⟩) x.rp.length cap ∧ x.rp.length ≤ cap ∧ cap ≤ maxLen := by
    rcases ho.2 with ⟨_, h0⟩ | ⟨g, cap, cur, rfl, _, _, h3, h4, _⟩
    · omega
    · exact ⟨g, cap, rfl, h3, h4⟩
  obtain ⟨g, cap, rfl, hc1, hc2⟩ := hsh
  have H2 := Lib.hid (h2.alter (r' := rpR g x.rp) (ownR_seg h2.head) (fun k hk => by simpa [ownR, segR, blkOf] using hk))
  clear ho hu h2
  go_wp2_with fail
  go_ret
  exact ⟨w'.heap.size, g, cap, rfl, hc1, hc2, H2.out.boxAt _ rfl⟩

theorem fold_at : ∀ (cs : List Value) (k : Nat) (z : Array Value) (j : Nat), (List.foldl (fun (a : Array Value) (x : Value × Nat) => a.setIfInBounds x.snd x.fst) z (cs.zipIdx k))[j]? = if k ≤ j ∧ j < k + cs.length ∧ j < z.size then cs[j - k]? else z[j]?
  | [], k, z, j => by simp; omega
  | v :: vs, k, z, j => by
    rw [List.zipIdx_cons, List.foldl_cons, fold_at vs (k + 1) _ j]
    simp only [Array.size_setIfInBounds, List.length_cons]
    by_cases hj : k = j
    · subst hj
      rw [if_neg (by omega)]
      by_cases hs : k < z.size
      · rw [if_pos ⟨Nat.le_refl _, by omega, hs⟩, Nat.sub_self]
        simp [hs]
      · rw [if_neg (by omega)]
        simp only [Array.setIfInBounds, hs, dite_false]
    · rw [Array.getElem?_setIfInBounds_ne hj]
      by_cases h2 : k + 1 ≤ j ∧ j < k + 1 + vs.length ∧ j < z.size
      · rw [if_pos h2, if_pos ⟨by omega, by omega, h2.2.2⟩, show j - k = (j - (k + 1)) + 1 by omega, List.getElem?_cons_succ]
      · rw [if_neg h2, if_neg (by omega)]

theorem fold_all (cs : List Value) (z : Array Value) (h : z.size = cs.length) : (List.foldl (fun (a : Array Value) (x : Value × Nat) => a.setIfInBounds x.snd x.fst) z cs.zipIdx).toList = cs := by
  apply List.ext_getElem?
  intro j
  rw [Array.getElem?_toList, fold_at cs 0 z j]
  by_cases hj : j < cs.length
  · rw [if_pos ⟨Nat.zero_le _, by omega, by omega⟩, Nat.sub_zero]
  · rw [if_neg (by omega), List.getElem?_eq_none (by omega), Array.getElem?_eq_none (by omega)]

theorem Tryz.zsts : Tryz.zeroCells156.size = 128 := by kernel_rfl

set_option maxHeartbeats 1600000 in
set_option maxRecDepth 100000 in
theorem store_walk (b : Nat) (cs : List Value) (hl : cs.length = 128) (hra : W.rangeAt b 0 cs) :
    Calls Tryz.prog 108 #[.pointer (some ⟨b, 0, none⟩)] W fun e w' => ∃ o, e = .returned (.pointer (some ⟨W.heap.size, 0, none⟩)) ∧ o.toList = cs ∧ w' = W.alloc (.cells o 156 (0, 0)) := by
  have HRA := Lib.hid hra
  have HI : Hid ((Tryz.prog.info? 154).map (·.size) = some cs.length) := Lib.hid (by rw [hl]; kernel_rfl)
  have HZ := Lib.hid (fold_all cs Tryz.zeroCells156 (by rw [Tryz.zsts, hl]))
  have c0 : ∃ v, W.cell? ⟨b, 0, none⟩ = some v := by
    have h0 : 0 < cs.length := by omega
    exact ⟨_, hra 0 _ (List.getElem?_eq_getElem h0)⟩
  clear hra
  go_enter Tryz.func108, Tryz.ntmps108
  go_wp2_with (refine wpList_load_mid rfl 154 (.tmp 5) rfl b 0 rfl cs _ HRA.out Tryz.underlying154 rfl HI.out ?_)
  go_wp2_with fail
  go_ret
  exact ⟨_, rfl, HZ.out, rfl⟩

theorem store_clone (h : Own B w0 W (lgL x ++ ss)) (hk : LgOk x) :
    Calls Tryz.prog 108 #[.pointer (some ⟨x.s, 0, none⟩)] W fun e w' => ∃ s, e = .returned (.pointer (some ⟨s, 0, none⟩)) ∧ Own B w0 w' (stR s x.st :: (lgL x ++ ss)) := by
  have hra : W.rangeAt x.s 0 (stCells x.st) := by
    obtain ⟨q1, q2, -⟩ := segR_at (h.get 2 (r := stR x.s x.st) rfl)
    intro j v hv
    rw [Nat.zero_add, q2 j (List.getElem?_eq_some_iff.1 hv).1]
    exact hv
  refine (store_walk x.s (stCells x.st) (by rw [st_len, hk.st]) hra).mono ?_
  rintro e w' ⟨o, rfl, ho, rfl⟩
  exact ⟨_, rfl, own_toSeg (h.box (.cells o 156 (0, 0))) ho⟩

end
end Go.Proofs.YtimdphlolmbhnaaGreat

/- Logs: what the service says of them, whether they agree, are once, kept, given. No program is looked at. -/
namespace Go.Proofs.YtimdphlolmbhnaaGreat

/-! ### The service, requests one by one -/

def sumV (l : List Int) : Int := l.foldl (· + ·) 0
/-- What an operation tells, and what the keys have then. -/
def applyR (vs : List Int) (r : Rq) : Int × List Int :=
  if r.key < 0 ∨ 64 ≤ r.key ∨ r.val ≤ -2147483648 ∨ 2147483648 ≤ r.val then (0, vs)
  else if r.kind = 1 then (vs.getD r.key.toNat 0, vs.set r.key.toNat r.val)
  else if r.kind = 2 then (vs.getD r.key.toNat 0, vs)
  else if r.kind = 3 then
    if vs.getD r.key.toNat 0 + r.val ≤ -2147483648 ∨ 2147483648 ≤ vs.getD r.key.toNat 0 + r.val then (vs.getD r.key.toNat 0, vs)
    else (vs.getD r.key.toNat 0 + r.val, vs.set r.key.toNat (vs.getD r.key.toNat 0 + r.val))
  else if r.kind = 4 then (vs.getD r.key.toNat 0, vs.set r.key.toNat 0)
  else if r.kind = 5 then (sumV vs, vs)
  else (0, vs)

/-- Values of a size that may be. -/
def VsOk (vs : List Int) : Prop := vs.length = 64 ∧ ∀ v ∈ vs, -2147483648 < v ∧ v < 2147483648

theorem VsOk.at {vs : List Int} (h : VsOk vs) (k : Nat) : -2147483648 < vs.getD k 0 ∧ vs.getD k 0 < 2147483648 := by
  rw [List.getD_eq_getElem?_getD]
  cases hk : vs[k]? with
  | none => simp
  | some v => simpa using h.2 v (List.mem_of_getElem? hk)

theorem VsOk.put {vs : List Int} (h : VsOk vs) (k : Nat) {v : Int} (h1 : -2147483648 < v) (h2 : v < 2147483648) : VsOk (vs.set k v) := by
  refine ⟨by simpa using h.1, fun u hu => ?_⟩
  rcases List.mem_or_eq_of_mem_set hu with hu | rfl
  · exact h.2 u hu
  · exact ⟨h1, h2⟩

theorem sum_in : ∀ (l : List Int) (a : Int), (∀ v ∈ l, -2147483648 < v ∧ v < 2147483648) → a - 2147483648 * l.length ≤ l.foldl (· + ·) a ∧ l.foldl (· + ·) a ≤ a + 2147483648 * l.length
  | [], a, _ => by simp
  | v :: l, a, h => by
    have h1 := h v (by simp)
    have h2 := sum_in l (a + v) (fun u hu => h u (by simp [hu]))
    simp only [List.foldl_cons, List.length_cons]
    omega

theorem applyR_ok {vs : List Int} (h : VsOk vs) (r : Rq) : VsOk (applyR vs r).2 ∧ -1000000000000 < (applyR vs r).1 ∧ (applyR vs r).1 < 1000000000000 := by
  have ha := h.at r.key.toNat
  have hs := sum_in vs 0 h.2
  rw [h.1] at hs
  unfold applyR
  split
  · exact ⟨h, by simp, by simp⟩
  · rename_i hb
    split
    · exact ⟨h.put _ (by omega) (by omega), by simp only; omega, by simp only; omega⟩
    · split
      · exact ⟨h, by simp only; omega, by simp only; omega⟩
      · split
        · split
          · exact ⟨h, by simp only; omega, by simp only; omega⟩
          · rename_i hc
            exact ⟨h.put _ (by omega) (by omega), by simp only; omega, by simp only; omega⟩
        · split
          · exact ⟨h.put _ (by omega) (by omega), by simp only; omega, by simp only; omega⟩
          · split
            · exact ⟨h, by simp only [sumV]; omega, by simp only [sumV]; omega⟩
            · exact ⟨h, by simp, by simp⟩

/-- Values, and each client's last time. -/
structure Sv where
  vs : List Int
  tm : Nat → Int
def Sv.new : Sv := ⟨List.replicate 64 0, fun _ => 0⟩
def upT (t : Nat → Int) (k : Nat) (v : Int) : Nat → Int := fun j => if j = k then v else t j
/-- A request: its result, if it is executed; what is then. -/
def stepR (n : Int) (s : Sv) (r : Rq) : Option Int × Sv :=
  if r.client < 0 ∨ n ≤ r.client ∨ r.time ≤ s.tm r.client.toNat then (none, s)
  else (some (applyR s.vs r).1, ⟨(applyR s.vs r).2, upT s.tm r.client.toNat r.time⟩)
def enOf (r : Rq) : Option Int → List En
  | none => []
  | some v => [⟨r, v⟩]
def runR (n : Int) : Sv → List Rq → List En × Sv
  | s, [] => ([], s)
  | s, r :: rs => (enOf r (stepR n s r).1 ++ (runR n (stepR n s r).2 rs).1, (runR n (stepR n s r).2 rs).2)
/-- Does a log say what the service says? -/
def followsB (n : Int) : Sv → List En → Bool
  | _, [] => true
  | s, e :: es => decide ((stepR n s e.rq).1 = some e.res) && followsB n (stepR n s e.rq).2 es
/-- What is behind a log. -/
def behind (n : Int) : Sv → List En → Sv
  | s, [] => s
  | s, e :: es => behind n (stepR n s e.rq).2 es

theorem runR_append (n : Int) : ∀ (s : Sv) (a b : List Rq), runR n s (a ++ b) = ((runR n s a).1 ++ (runR n (runR n s a).2 b).1, (runR n (runR n s a).2 b).2)
  | s, [], b => by simp [runR]
  | s, r :: a, b => by simp [runR, runR_append n _ a b]

theorem stepR_none {n : Int} {s : Sv} {r : Rq} (h : (stepR n s r).1 = none) : (stepR n s r).2 = s := by
  unfold stepR at *
  split at h
  · rw [if_pos (by assumption)]
  · simp at h

theorem follows_run (n : Int) : ∀ (s : Sv) (rs : List Rq), followsB n s (runR n s rs).1 = true ∧ behind n s (runR n s rs).1 = (runR n s rs).2
  | s, [] => ⟨rfl, rfl⟩
  | s, r :: rs => by
    obtain ⟨h1, h2⟩ := follows_run n (stepR n s r).2 rs
    cases hr : (stepR n s r).1 with
    | none =>
      rw [stepR_none hr] at h1 h2
      simp only [runR, hr, enOf, List.nil_append, stepR_none hr]
      exact ⟨h1, h2⟩
    | some v =>
      simp only [runR, hr, enOf, List.cons_append, List.nil_append, followsB, behind, decide_true, Bool.true_and]
      exact ⟨h1, h2⟩

theorem follows_append (n : Int) : ∀ (s : Sv) (a b : List En), followsB n s (a ++ b) = (followsB n s a && followsB n (behind n s a) b)
  | s, [], b => by simp [followsB, behind]
  | s, e :: a, b => by simp [followsB, behind, follows_append n _ a b, Bool.and_assoc]

theorem behind_append (n : Int) : ∀ (s : Sv) (a b : List En), behind n s (a ++ b) = behind n (behind n s a) b
  | _, [], _ => rfl
  | _, _ :: a, b => behind_append n _ a b

/-! ### Once: times rise -/

def OnceP (l : List En) : Prop := l.Pairwise fun f e => ¬ (f.rq.client = e.rq.client ∧ e.rq.time ≤ f.rq.time)
instance (l : List En) : Decidable (OnceP l) := by unfold OnceP; exact inferInstance

theorem stepR_some {n : Int} {s : Sv} {r : Rq} {v : Int} (h : (stepR n s r).1 = some v) : 0 ≤ r.client ∧ r.client < n ∧ s.tm r.client.toNat < r.time ∧ v = (applyR s.vs r).1 ∧ (stepR n s r).2 = ⟨(applyR s.vs r).2, upT s.tm r.client.toNat r.time⟩ := by
  unfold stepR at *
  split at h
  · simp at h
  · rename_i hc
    rw [if_neg hc]
    simp only [Option.some.injEq] at h
    exact ⟨by omega, by omega, by omega, h.symm, rfl⟩

theorem upT_le {t : Nat → Int} {k : Nat} {v : Int} (h : t k ≤ v) (j : Nat) : t j ≤ upT t k v j := by
  unfold upT
  split
  · subst_vars; exact h
  · exact Int.le_refl _

/-- A log that follows: its entries are above the times, clients are right; times do not fall. -/
theorem follows_above (n : Int) : ∀ (s : Sv) (l : List En), followsB n s l = true → (∀ e ∈ l, 0 ≤ e.rq.client ∧ e.rq.client < n ∧ s.tm e.rq.client.toNat < e.rq.time) ∧ (∀ j, s.tm j ≤ (behind n s l).tm j) ∧ (∀ e ∈ l, e.rq.time ≤ (behind n s l).tm e.rq.client.toNat) ∧ OnceP l
  | s, [], _ => ⟨by simp, fun j => Int.le_refl _, by simp, .nil⟩
  | s, e :: l, h => by
    simp only [followsB, Bool.and_eq_true, decide_eq_true_eq] at h
    obtain ⟨h1, h2⟩ := h
    obtain ⟨p1, p2, p3, p4, p5⟩ := stepR_some h1
    obtain ⟨q1, q2, q3, q4⟩ := follows_above n _ l h2
    have hup : ∀ j, s.tm j ≤ (stepR n s e.rq).2.tm j := fun j => by rw [p5]; exact upT_le (by omega) j
    have hown : (stepR n s e.rq).2.tm e.rq.client.toNat = e.rq.time := by rw [p5]; simp [upT]
    refine ⟨fun f hf => ?_, fun j => Int.le_trans (hup j) (q2 j), fun f hf => ?_, ?_⟩
    · rcases List.mem_cons.1 hf with rfl | hf
      · exact ⟨p1, p2, p3⟩
      · obtain ⟨a, b, c⟩ := q1 f hf
        exact ⟨a, b, Int.lt_of_le_of_lt (hup _) c⟩
    · rcases List.mem_cons.1 hf with rfl | hf
      · have := q2 f.rq.client.toNat; rw [hown] at this; exact this
      · exact q3 f hf
    · refine List.pairwise_cons.2 ⟨fun f hf hc => ?_, q4⟩
      obtain ⟨a, b, c⟩ := q1 f hf
      rw [← hc.1, hown] at c
      omega

/-! ### Is one the beginning of the other one? -/

def prefB (a b : List En) : Bool := decide (a.take b.length = b.take a.length)

theorem prefB_self (a : List En) : prefB a a = true := by simp [prefB]
theorem prefB_nil (a : List En) : prefB a [] = true := by simp [prefB]
theorem prefB_nil' (a : List En) : prefB [] a = true := by simp [prefB]
theorem prefB_comm (a b : List En) : prefB a b = prefB b a := by simp only [prefB, eq_comm]
theorem prefB_take (a : List En) (k : Nat) : prefB a (a.take k) = true := by
  simp only [prefB, List.length_take, decide_eq_true_eq, List.take_take]
  rcases Nat.le_total k a.length with h | h
  · rw [Nat.min_eq_left h, Nat.min_eq_right h]
  · rw [Nat.min_eq_right h, Nat.min_eq_left h]

/-- Each one with those ahead of it. -/
def agreeB : List (List En) → Bool
  | l => decide (∀ i, i < l.length → ∀ k, k < i → prefB (l.getD i []) (l.getD k []) = true)

/-! ### Kept -/

def sameId (a e : En) : Bool := decide (e.rq.client = a.rq.client ∧ e.rq.time = a.rq.time)
def findE (l : List En) (a : En) : Option Nat := l.findIdx? (sameId a)
def keptB (l : List En) : Nat → List En → Bool
  | _, [] => true
  | k, a :: qs => match findE l a with
    | none => keptB l k qs
    | some i => if l[i]? = some a ∧ k ≤ i then keptB l (i + 1) qs else false

theorem once_ne {l : List En} (h : OnceP l) {i j : Nat} (hij : i < j) (hj : j < l.length) : sameId l[j] (l[i]'(by omega)) = false := by
  have h1 := (List.pairwise_iff_getElem.1 h) i j (by omega) hj hij
  simp only [sameId, decide_eq_false_iff_not]
  intro ⟨a, b⟩
  exact h1 ⟨a, by omega⟩

theorem sameId_comm (a e : En) : sameId a e = sameId e a := by simp only [sameId, eq_comm]
theorem sameId_self (a : En) : sameId a a = true := by simp [sameId]

theorem find_at {l : List En} (h : OnceP l) {j : Nat} (hj : j < l.length) {a : En} (ha : sameId l[j] = sameId a) : findE l a = some j := by
  unfold findE
  rw [← ha, List.findIdx?_eq_some_iff_getElem]
  exact ⟨hj, sameId_self _, fun i hi => by rw [once_ne h hi hj]; simp⟩

theorem keptB_cons (l : List En) (k : Nat) (a : En) (qs : List En) : keptB l k (a :: qs) = match findE l a with
    | none => keptB l k qs
    | some i => if l[i]? = some a ∧ k ≤ i then keptB l (i + 1) qs else false := rfl
/-- What is kept qs it is: the head moves on. -/
theorem kept_move {l : List En} (h : OnceP l) (rest : List En) : ∀ (m k : Nat), m + k ≤ l.length → keptB l k ((l.drop k).take m ++ rest) = keptB l (k + m) rest
  | 0, k, _ => by simp
  | m + 1, k, hk => by
    have hlt : k < l.length := by omega
    rw [List.drop_eq_getElem_cons hlt, List.take_succ_cons, List.cons_append]
    rw [keptB_cons, find_at h hlt rfl]
    simp only [List.getElem?_eq_getElem hlt, true_and, Nat.le_refl, if_true]
    rw [kept_move h rest m (k + 1) (by omega), show k + 1 + m = k + (m + 1) by omega]

theorem kept_self {l : List En} (h : OnceP l) : keptB l 0 l = true := by
  have h1 := kept_move h [] l.length 0 (by omega)
  simp only [List.drop_zero, List.take_length, List.append_nil, Nat.zero_add] at h1
  rw [h1]; rfl

theorem once_take {l : List En} (h : OnceP l) (k : Nat) : OnceP (l.take k) := h.sublist (List.take_sublist _ _)

/-- A log with the result of the i-th turned. -/
def turned (l : List En) (i : Nat) (e : En) : List En := l.take i ++ e :: l.drop (i + 1)

theorem kept_turned {l : List En} (h : OnceP l) {i : Nat} (hi : i < l.length) {e : En} (he : e.rq = l[i].rq) (hn : e ≠ l[i]) : keptB l 0 (turned l i e) = false := by
  have h1 := kept_move h (e :: l.drop (i + 1)) i 0 (by omega)
  simp only [List.drop_zero, Nat.zero_add] at h1
  unfold turned
  rw [h1]
  unfold keptB
  rw [find_at h hi (a := e) (by funext x; simp [sameId, he])]
  simp only [List.getElem?_eq_getElem hi, Option.some.injEq]
  rw [if_neg (fun c => hn c.1.symm)]

theorem kept_take {l : List En} (h : OnceP l) (i : Nat) : keptB l 0 (l.take i) = true := by
  have h1 := kept_move h [] (min i l.length) 0 (by omega)
  simp only [List.drop_zero, List.append_nil, Nat.zero_add] at h1
  rw [show l.take i = l.take (min i l.length) by rw [Nat.min_def]; split; rfl; rw [List.take_length, List.take_of_length_le (by omega)], h1]
  rfl

theorem kept_none {l : List En} : ∀ (k : Nat) (qs : List En), (∀ a ∈ qs, ∀ e ∈ l, sameId a e = false) → keptB l k qs = true
  | _, [], _ => rfl
  | k, a :: qs, h => by
    have : findE l a = none := by
      unfold findE
      rw [List.findIdx?_eq_none_iff]
      exact h a (by simp)
    unfold keptB
    rw [this]
    exact kept_none k qs (fun b hb => h b (by simp [hb]))

theorem kept_short {l : List En} (h : OnceP l) {i : Nat} (hi : i < l.length) {e : En} (he : e.rq = l[i].rq) : keptB (l.take i) 0 (turned l i e) = true := by
  have h1 := kept_move (once_take h i) (e :: l.drop (i + 1)) i 0 (by simp; omega)
  simp only [List.drop_zero, Nat.zero_add, List.take_take, Nat.min_self] at h1
  unfold turned
  rw [h1]
  refine kept_none _ _ (fun a ha f hf => ?_)
  obtain ⟨k, hk, rfl⟩ := List.mem_take_iff_getElem.1 hf
  rcases List.mem_cons.1 ha with rfl | ha
  · have := once_ne h (show k < i by omega) hi
    simpa [sameId, he] using this
  · obtain ⟨j, hj, rfl⟩ := List.mem_drop_iff_getElem.1 ha
    exact once_ne h (show k < i + 1 + j by omega) (by omega)

/-! ### Given -/

def givenB (l : List En) (k : Int) (issued : List Rq) : Bool := l.all fun e => !(decide (e.rq.client = k) && issued.contains e.rq == false)

theorem once_rq {l : List En} (h : OnceP l) {i j : Nat} (hi : i < l.length) (hj : j < l.length) (he : l[i].rq = l[j].rq) : i = j := by
  rcases Nat.lt_trichotomy i j with hlt | rfl | hlt
  · have := once_ne h hlt hj
    simp [sameId, he] at this
  · rfl
  · have := once_ne h hlt hi
    simp [sameId, he] at this


theorem given_not {l : List En} {i : Nat} (hi : i < l.length) {issued : List Rq} (hn : l[i].rq ∉ issued) : givenB l l[i].rq.client issued = false := by
  unfold givenB
  rw [List.all_eq_false]
  exact ⟨l[i], List.getElem_mem hi, by simp [hn]⟩
theorem given_all {l : List En} {k : Int} {issued : List Rq} (h : ∀ e ∈ l, e.rq ∈ issued) : givenB l k issued = true := by
  unfold givenB
  rw [List.all_eq_true]
  intro e he
  simp [h e he]

/-- The requests of all but the i-th, so far. -/
def others (l : List En) (i : Nat) : Nat → List Rq
  | 0 => []
  | k + 1 => if k = i then others l i k else others l i k ++ ((l[k]?).map En.rq).toList
theorem others_mem (l : List En) (i : Nat) (r : Rq) : ∀ n, r ∈ others l i n ↔ ∃ k e, k < n ∧ k ≠ i ∧ l[k]? = some e ∧ e.rq = r
  | 0 => by simp [others]
  | n + 1 => by
    unfold others
    split
    · subst_vars
      rw [others_mem l _ r n]
      constructor
      · rintro ⟨k, e, h1, h2⟩
        exact ⟨k, e, by omega, h2⟩
      · rintro ⟨k, e, h1, h2, h3⟩
        exact ⟨k, e, by omega, h2, h3⟩
    · rw [List.mem_append, others_mem l i r n]
      constructor
      · rintro (⟨k, e, h1, h2⟩ | h)
        · exact ⟨k, e, by omega, h2⟩
        · simp only [Option.mem_toList, Option.map_eq_some_iff] at h
          obtain ⟨e, h1, h2⟩ := h
          exact ⟨n, e, by omega, by assumption, h1, h2⟩
      · rintro ⟨k, e, h1, h2, h3, h4⟩
        by_cases hk : k < n
        · exact .inl ⟨k, e, hk, h2, h3, h4⟩
        · have : k = n := by omega
          subst this
          exact .inr (by simp [h3, h4])
theorem others_len (l : List En) (i : Nat) : ∀ n, (others l i n).length ≤ n
  | 0 => by simp [others]
  | n + 1 => by
    unfold others
    have := others_len l i n
    split
    · omega
    · rw [List.length_append]
      cases l[n]? <;> simp <;> omega
theorem finds_given {l : List En} (h : OnceP l) {i : Nat} (hi : i < l.length) : givenB l l[i].rq.client (others l i l.length) = false ∧ givenB l l[i].rq.client (others l i l.length ++ [l[i].rq]) = true := by
  refine ⟨given_not hi (fun hn => ?_), given_all (fun e he => ?_)⟩
  · obtain ⟨k, e, h1, h2, h3, h4⟩ := (others_mem _ _ _ _).1 hn
    rw [List.getElem?_eq_getElem h1, Option.some.injEq] at h3
    subst h3
    exact h2 (once_rq h h1 hi h4)
  · obtain ⟨k, hk, rfl⟩ := List.getElem_of_mem he
    by_cases hki : k = i
    · subst hki
      simp
    · exact List.mem_append_left _ ((others_mem _ _ _ _).2 ⟨k, _, hk, hki, List.getElem?_eq_getElem hk, rfl⟩)

/-! ### A log that is turned does not follow -/

theorem follows_at {n : Int} {s : Sv} {l : List En} (h : followsB n s l = true) {i : Nat} (hi : i < l.length) : followsB n s (l.take i) = true ∧ (stepR n (behind n s (l.take i)) l[i].rq).1 = some l[i].res := by
  have h1 : l = l.take i ++ (l[i] :: l.drop (i + 1)) := by rw [← List.drop_eq_getElem_cons hi, List.take_append_drop]
  rw [h1, follows_append] at h
  simp only [followsB, Bool.and_eq_true, decide_eq_true_eq] at h
  exact ⟨h.1, h.2.1⟩
theorem follows_turned {n : Int} {s : Sv} {l : List En} {i : Nat} {e : En} (hn : (stepR n (behind n s (l.take i)) e.rq).1 ≠ some e.res) : followsB n s (turned l i e) = false := by
  unfold turned
  rw [follows_append]
  simp [followsB, hn]
theorem follows_res {n : Int} {s : Sv} {l : List En} (h : followsB n s l = true) {i : Nat} (hi : i < l.length) {v : Int} (hv : v ≠ l[i].res) : followsB n s (turned l i ⟨l[i].rq, v⟩) = false := by
  refine follows_turned ?_
  simp only [(follows_at h hi).2, ne_eq, Option.some.injEq]
  exact fun e => hv e.symm
theorem follows_client {n : Int} {s : Sv} {l : List En} {i : Nat} {r : Rq} {v : Int} (hr : r.client = n) : followsB n s (turned l i ⟨r, v⟩) = false := by
  refine follows_turned ?_
  have : stepR n (behind n s (l.take i)) r = (none, behind n s (l.take i)) := by
    unfold stepR
    rw [if_pos (.inr (.inl (by omega)))]
  simp [this]
theorem follows_twice {n : Int} {s : Sv} {l : List En} (h : followsB n s l = true) {i : Nat} (hi : i < l.length) : followsB n s (l ++ [l[i]]) = false := by
  rw [follows_append, h, Bool.true_and]
  obtain ⟨-, -, h3, -⟩ := follows_above n s l h
  have := h3 l[i] (List.getElem_mem hi)
  have h4 : stepR n (behind n s l) l[i].rq = (none, behind n s l) := by
    unfold stepR
    rw [if_pos (.inr (.inr this))]
  simp [followsB, h4]

theorem turned_len {l : List En} {i : Nat} (hi : i < l.length) (e : En) : (turned l i e).length = l.length := by
  simp [turned]; omega
theorem turned_set {l : List En} {i : Nat} (hi : i < l.length) (e : En) : turned l i e = l.set i e := by
  rw [List.set_eq_take_append_cons_drop, if_pos hi]; rfl
theorem turned_take (l : List En) (i : Nat) (e : En) (hi : i < l.length) : (turned l i e).take i = l.take i := by
  unfold turned
  rw [List.take_append_of_le_length (by simp; omega), List.take_take, Nat.min_self]
theorem pref_turned {l : List En} {i : Nat} (hi : i < l.length) {e : En} (hn : e ≠ l[i]) : prefB l (turned l i e) = false := by
  simp only [prefB, turned_len hi, List.take_length, decide_eq_false_iff_not]
  rw [List.take_of_length_le (by rw [turned_len hi]; omega)]
  intro h
  have h2 : (turned l i e)[i]? = some e := by rw [turned_set hi, List.getElem?_set_self hi]
  rw [← h, List.getElem?_eq_getElem hi] at h2
  exact hn (Option.some.inj h2).symm

/-! ### The states of a run -/

theorem step_ok {n : Int} {s : Sv} (h : VsOk s.vs) (r : Rq) : VsOk (stepR n s r).2.vs ∧ ∀ v, (stepR n s r).1 = some v → -1000000000000 < v ∧ v < 1000000000000 := by
  obtain ⟨h1, h2, h3⟩ := applyR_ok h r
  unfold stepR
  split
  · exact ⟨h, by simp⟩
  · exact ⟨h1, fun v hv => by simp only [Option.some.injEq] at hv; subst hv; exact ⟨h2, h3⟩⟩
theorem run_ok {n : Int} : ∀ {s : Sv} (rs : List Rq), VsOk s.vs → VsOk (runR n s rs).2.vs ∧ (∀ e ∈ (runR n s rs).1, -1000000000000 < e.res ∧ e.res < 1000000000000) ∧ (runR n s rs).1.length ≤ rs.length
  | s, [], h => ⟨h, by simp [runR], by simp [runR]⟩
  | s, r :: rs, h => by
    obtain ⟨h1, h2⟩ := step_ok (n := n) h r
    obtain ⟨q1, q2, q3⟩ := run_ok rs h1
    refine ⟨q1, fun e he => ?_, ?_⟩
    · simp only [runR] at he
      rcases List.mem_append.1 he with he | he
      · cases hr : (stepR n s r).1 with
        | none => rw [hr] at he; simp [enOf] at he
        | some v =>
          rw [hr] at he
          simp only [enOf, List.mem_singleton] at he
          subst he
          exact h2 v hr
      · exact q2 e he
    · simp only [runR, List.length_append, List.length_cons]
      cases (stepR n s r).1 <;> simp [enOf] <;> omega
theorem new_ok : VsOk Sv.new.vs := ⟨by simp [Sv.new], fun v hv => by simp [Sv.new] at hv; omega⟩

/-! ### What was accepted in another order -/

def swapEn (j : Nat) : En := ⟨⟨1, j + 1, 0, 0, 0, 0⟩, j⟩
def swapL (n : Nat) : List En := (List.range n).map swapEn
def swapped (n i k : Nat) : List En := ((swapL n).set i (swapEn k)).set k (swapEn i)
def swapOk (n i k : Nat) : Bool := keptB (swapL n) 0 (swapped n i k) == decide (i = k) && (keptB (swapped n i k) 0 (swapL n) == decide (i = k) && (decide (OnceP (swapL n)) && decide (OnceP (swapped n i k)) == decide (i = k)))
theorem swap_all : ((List.range 10).all fun n => !(decide (2 ≤ n)) || (List.range n).all fun i => (List.range n).all fun k => swapOk n i k) = true := by decide +kernel
theorem swap_law {n i k : Nat} (h1 : 2 ≤ n) (h2 : n < 10) (hi : i < n) (hk : k < n) : keptB (swapL n) 0 (swapped n i k) = decide (i = k) ∧ keptB (swapped n i k) 0 (swapL n) = decide (i = k) ∧ decide (OnceP (swapL n)) = true ∧ decide (OnceP (swapped n i k)) = decide (i = k) := by
  have h := List.all_eq_true.1 swap_all n (List.mem_range.2 h2)
  simp only [h1, decide_true, Bool.not_true, Bool.false_or] at h
  have h3 := List.all_eq_true.1 (List.all_eq_true.1 h i (List.mem_range.2 hi)) k (List.mem_range.2 hk)
  simp only [swapOk, Bool.and_eq_true, beq_iff_eq] at h3
  exact ⟨h3.1, h3.2.1, h3.2.2.1, h3.2.2.2⟩

end Go.Proofs.YtimdphlolmbhnaaGreat

/- inst: a place is written; Commits. -/
namespace Go.Proofs.YtimdphlolmbhnaaGreat
open Go.RowKit Go.Heap

theorem put_step {l : List Pm} {k : Nat} (hk : k < l.length) (x y : Pm) (r : Nat) (v : Value) (hr : r < 14) (h : pmCells y = (pmCells x).set r v) : ((l.set k x).flatMap pmCells).set (k * 14 + r) v = (l.set k y).flatMap pmCells := by
  rw [flat_set (cells := pmCells) (sz := 14) (fun _ => rfl) (l.set k x) k r x y v (List.getElem?_set_self hk) hr h, List.set_set]

theorem put_done (l : List Pm) (k : Nat) (hk : k < l.length) (c : Ct) :
    ((((((l.flatMap pmCells).set (k * 14 + 8) (.bool true)).set (k * 14 + 9) (.int .i64 c.view)).set (k * 14 + 10) (.int .i64 c.inst)).set (k * 14 + 11) (.int .i64 c.seq)).set (k * 14 + 12) c.vb).set (k * 14 + 13) c.vv =
      (l.set k { l[k] with done := true, dw := c }).flatMap pmCells := by
  have e : l.flatMap pmCells = (l.set k l[k]).flatMap pmCells := by rw [List.set_getElem_self]
  rw [e]
  generalize l[k] = p
  obtain ⟨lc, sl, told, has, ct, done, ⟨a, b, d, e, f, g, h⟩⟩ := p
  obtain ⟨a', b', d', e', f', g', h'⟩ := c
  rw [put_step hk ⟨lc, sl, told, has, ct, done, ⟨a, b, d, e, f, g, h⟩⟩ ⟨lc, sl, told, has, ct, true, ⟨a, b, d, e, f, g, h⟩⟩ 8 (.bool true) (by omega) rfl, put_step hk ⟨lc, sl, told, has, ct, true, ⟨a, b, d, e, f, g, h⟩⟩ ⟨lc, sl, told, has, ct, true, ⟨a', b, d, e, f, g, h⟩⟩ 9 (.int .i64 a') (by omega) rfl, put_step hk ⟨lc, sl, told, has, ct, true, ⟨a', b, d, e, f, g, h⟩⟩ ⟨lc, sl, told, has, ct, true, ⟨a', b', d, e, f, g, h⟩⟩ 10 (.int .i64 b') (by omega) rfl, put_step hk ⟨lc, sl, told, has, ct, true, ⟨a', b', d, e, f, g, h⟩⟩ ⟨lc, sl, told, has, ct, true, ⟨a', b', d', e, f, g, h⟩⟩ 11 (.int .i64 d') (by omega) rfl, put_step hk ⟨lc, sl, told, has, ct, true, ⟨a', b', d', e, f, g, h⟩⟩ ⟨lc, sl, told, has, ct, true, ⟨a', b', d', e', f, g, h⟩⟩ 12 e' (by omega) rfl, put_step hk ⟨lc, sl, told, has, ct, true, ⟨a', b', d', e', f, g, h⟩⟩ ⟨lc, sl, told, has, ct, true, ⟨a', b', d', e', f', g', h'⟩⟩ 13 f' (by omega) rfl]

theorem put_cert (l : List Pm) (k : Nat) (hk : k < l.length) (c : Ct) :
    (((((((l.flatMap pmCells).set (k * 14 + 1) (.bool true)).set (k * 14 + 2) (.bool true)).set (k * 14 + 3) (.int .i64 c.view)).set (k * 14 + 4) (.int .i64 c.inst)).set (k * 14 + 5) (.int .i64 c.seq)).set (k * 14 + 6) c.vb).set (k * 14 + 7) c.vv =
      (l.set k { l[k] with told := true, has := true, ct := c }).flatMap pmCells := by
  have e : l.flatMap pmCells = (l.set k l[k]).flatMap pmCells := by rw [List.set_getElem_self]
  rw [e]
  generalize l[k] = p
  obtain ⟨lc, sl, told, has, ⟨a, b, d, e, f, g, h⟩, done, dw⟩ := p
  obtain ⟨a', b', d', e', f', g', h'⟩ := c
  rw [put_step hk ⟨lc, sl, told, has, ⟨a, b, d, e, f, g, h⟩, done, dw⟩ ⟨lc, sl, true, has, ⟨a, b, d, e, f, g, h⟩, done, dw⟩ 1 (.bool true) (by omega) rfl, put_step hk ⟨lc, sl, true, has, ⟨a, b, d, e, f, g, h⟩, done, dw⟩ ⟨lc, sl, true, true, ⟨a, b, d, e, f, g, h⟩, done, dw⟩ 2 (.bool true) (by omega) rfl, put_step hk ⟨lc, sl, true, true, ⟨a, b, d, e, f, g, h⟩, done, dw⟩ ⟨lc, sl, true, true, ⟨a', b, d, e, f, g, h⟩, done, dw⟩ 3 (.int .i64 a') (by omega) rfl, put_step hk ⟨lc, sl, true, true, ⟨a', b, d, e, f, g, h⟩, done, dw⟩ ⟨lc, sl, true, true, ⟨a', b', d, e, f, g, h⟩, done, dw⟩ 4 (.int .i64 b') (by omega) rfl, put_step hk ⟨lc, sl, true, true, ⟨a', b', d, e, f, g, h⟩, done, dw⟩ ⟨lc, sl, true, true, ⟨a', b', d', e, f, g, h⟩, done, dw⟩ 5 (.int .i64 d') (by omega) rfl, put_step hk ⟨lc, sl, true, true, ⟨a', b', d', e, f, g, h⟩, done, dw⟩ ⟨lc, sl, true, true, ⟨a', b', d', e', f, g, h⟩, done, dw⟩ 6 e' (by omega) rfl, put_step hk ⟨lc, sl, true, true, ⟨a', b', d', e', f, g, h⟩, done, dw⟩ ⟨lc, sl, true, true, ⟨a', b', d', e', f', g', h'⟩, done, dw⟩ 7 f' (by omega) rfl]

theorem put_done' (l : List Pm) (k : Nat) (hk : k < l.length) (c : Ct) :
    ((((((l.flatMap pmCells).set (k * 14 + 8) (.bool true)).set (k * 14 + 9) (.int .i64 c.view)).set (k * 14 + 9 + 1) (.int .i64 c.inst)).set (k * 14 + 9 + 2) (.int .i64 c.seq)).set (k * 14 + 9 + 3) c.vb).set (k * 14 + 9 + 4) c.vv =
      (l.set k { l[k] with done := true, dw := c }).flatMap pmCells := put_done l k hk c
theorem put_cert' (l : List Pm) (k : Nat) (hk : k < l.length) (c : Ct) :
    (((((((l.flatMap pmCells).set (k * 14 + 1) (.bool true)).set (k * 14 + 2) (.bool true)).set (k * 14 + 3) (.int .i64 c.view)).set (k * 14 + 3 + 1) (.int .i64 c.inst)).set (k * 14 + 3 + 2) (.int .i64 c.seq)).set (k * 14 + 3 + 3) c.vb).set (k * 14 + 3 + 4) c.vv =
      (l.set k { l[k] with told := true, has := true, ct := c }).flatMap pmCells := put_cert l k hk c

section
variable {B : Nat} {w0 W W' : World} {ss rs : List Res} {x : Ins} {v1 v2 : Value} {l : List Rq} {vs : Vs}

/-- A certificate comes into a place. -/
theorem oi_place {k : Nat} {p : Pm} {c : Ct} (h : Own B w0 W (redR c.vv 2 c.vs.length (vsCells c.vs) :: redR c.vb 6 c.rs.length (rqsCells c.rs) :: ([blk x.i x.o, segR x.b 254 ((x.l.set k p).flatMap pmCells), certsR x] ++ (x.l.map pmR ++ ss))))
    (hk : k < x.l.length) (hl : p.lc = x.l[k].lc) (hs : p.sl = x.l[k].sl) (hn : c.rs.length ≤ 100000) (hm : c.vs.length ≤ 100000) (hc : (p.ct = c ∧ p.dw = x.l[k].dw) ∨ (p.ct = x.l[k].ct ∧ p.dw = c)) : OwnI B w0 W (x.sl k p) ss := by
  have hmap : (x.l.set k p).map pmR = x.l.map pmR := by
    rw [List.map_set, show pmR p = pmR x.l[k] by simp [pmR, hl, hs]]
    conv => lhs; arg 3; rw [← List.getElem_map (f := pmR) (h := by simpa using hk)]
    exact List.set_getElem_self _
  have h1 : Own B w0 W (certsR x :: redR c.vv 2 c.vs.length (vsCells c.vs) :: redR c.vb 6 c.rs.length (rqsCells c.rs) :: blk x.i x.o :: segR x.b 254 ((x.l.set k p).flatMap pmCells) :: (x.l.map pmR ++ ss)) := h.perm (List.perm_middle (l₁ := [_, _, _, _]))
  have h2 := h1.alter (r' := certsR (x.sl k p)) (by
    obtain ⟨D, ⟨⟨q1, q2⟩, q3⟩, q4, q5⟩ := h1.head
    obtain ⟨D1, ⟨v1, v2⟩, v3, _⟩ := (h1.all (redR c.vv 2 c.vs.length (vsCells c.vs)) (List.mem_cons_of_mem _ List.mem_cons_self)).1
    obtain ⟨D2, ⟨b1, b2⟩, b3, _⟩ := (h1.all (redR c.vb 6 c.rs.length (rqsCells c.rs)) (List.mem_cons_of_mem _ (List.mem_cons_of_mem _ List.mem_cons_self))).1
    have hnew : CtIn W c (D ++ (D1 ++ D2)) := ⟨b1.mono (by simp +contextual), hn, v1.mono (by simp +contextual), hm⟩
    have hold : ∀ p' ∈ x.l, CtIn W p'.ct (D ++ (D1 ++ D2)) ∧ CtIn W p'.dw (D ++ (D1 ++ D2)) := fun p' hp' => ⟨(q2 p' hp').1.mono (by simp +contextual), (q2 p' hp').2.mono (by simp +contextual)⟩
    refine ⟨D ++ (D1 ++ D2), ⟨⟨⟨by simpa using q1.n, q1.f1, q1.f2, fun p' hp' => ?_, q1.c1, q1.a1, q1.a2, q1.vw⟩, fun p' hp' => ?_⟩, fun k hk => ?_⟩, fun k hk => ?_, q5⟩
    · rcases List.mem_or_eq_of_mem_set hp' with hp' | rfl
      · exact q1.lf p' hp'
      · rw [hl]; exact q1.lf _ (by simp)
    · rcases List.mem_or_eq_of_mem_set hp' with hp' | rfl
      · exact hold p' hp'
      · rcases hc with ⟨e1, e2⟩ | ⟨e1, e2⟩
        · rw [e1, e2]; exact ⟨hnew, (hold _ (by simp)).2⟩
        · rw [e1, e2]; exact ⟨(hold _ (by simp)).1, hnew⟩
    · rcases List.mem_append.1 hk with hk | hk
      · exact q3 k hk
      · rcases List.mem_append.1 hk with hk | hk
        · exact v2 k hk
        · exact b2 k hk
    · rcases List.mem_append.1 hk with hk | hk
      · exact q4 k hk
      · rcases List.mem_append.1 hk with hk | hk
        · exact v3 k hk
        · exact b3 k hk) (by simp [certsR, imm])
  have h3 : Own B w0 W (blk x.i x.o :: segR x.b 254 ((x.l.set k p).flatMap pmCells) :: certsR (x.sl k p) :: (x.l.map pmR ++ ss)) := (h2.perm (List.perm_middle (l₁ := [_, _, _, _])).symm).drop.drop
  show Own B w0 W (insHd (x.sl k p) ++ ((x.l.set k p).map pmR ++ ss))
  rw [hmap]
  exact h3

/-- The six cells of a place that is done are stored. -/
theorem oi_dw (h : Own B w0 W (redR v2 2 vs.length (vsCells vs) :: redR v1 6 l.length (rqsCells l) :: (insHd x ++ (x.l.map pmR ++ ss)))) (k : Nat) (hk : k < x.l.length) (view inst seq : Int) (hn : l.length ≤ 100000) (hm : vs.length ≤ 100000) :
    OwnI B w0 ((((((W.setCell ⟨x.b, k * 14 + 8, none⟩ (.bool true)).setCell ⟨x.b, k * 14 + 9, none⟩ (.int .i64 view)).setCell ⟨x.b, k * 14 + 9 + 1, none⟩ (.int .i64 inst)).setCell ⟨x.b, k * 14 + 9 + 2, none⟩ (.int .i64 seq)).setCell ⟨x.b, k * 14 + 9 + 3, none⟩ v1).setCell ⟨x.b, k * 14 + 9 + 4, none⟩ v2)
      (x.sl k { x.l[k] with done := true, dw := ⟨view, inst, seq, v1, v2, l, vs⟩ }) ss := by
  have h1 := (((((((h.perm (List.perm_middle (l₁ := [_, _, _]))).put (k * 14 + 8) (.bool true)).put (k * 14 + 9) (.int .i64 view)).put (k * 14 + 9 + 1) (.int .i64 inst)).put (k * 14 + 9 + 2) (.int .i64 seq)).put (k * 14 + 9 + 3) v1).put (k * 14 + 9 + 4) v2)
  rw [put_done' x.l k hk ⟨view, inst, seq, v1, v2, l, vs⟩] at h1
  exact oi_place (c := ⟨view, inst, seq, v1, v2, l, vs⟩) (h1.perm (List.perm_middle (l₁ := [_, _, _])).symm) hk rfl rfl hn hm (.inr ⟨rfl, rfl⟩)
theorem oi_ct (h : Own B w0 W (redR v2 2 vs.length (vsCells vs) :: redR v1 6 l.length (rqsCells l) :: (insHd x ++ (x.l.map pmR ++ ss)))) (k : Nat) (hk : k < x.l.length) (view inst seq : Int) (hn : l.length ≤ 100000) (hm : vs.length ≤ 100000) :
    OwnI B w0 (((((((W.setCell ⟨x.b, k * 14 + 1, none⟩ (.bool true)).setCell ⟨x.b, k * 14 + 2, none⟩ (.bool true)).setCell ⟨x.b, k * 14 + 3, none⟩ (.int .i64 view)).setCell ⟨x.b, k * 14 + 3 + 1, none⟩ (.int .i64 inst)).setCell ⟨x.b, k * 14 + 3 + 2, none⟩ (.int .i64 seq)).setCell ⟨x.b, k * 14 + 3 + 3, none⟩ v1).setCell ⟨x.b, k * 14 + 3 + 4, none⟩ v2)
      (x.sl k { x.l[k] with told := true, has := true, ct := ⟨view, inst, seq, v1, v2, l, vs⟩ }) ss := by
  have h1 := ((((((((h.perm (List.perm_middle (l₁ := [_, _, _]))).put (k * 14 + 1) (.bool true)).put (k * 14 + 2) (.bool true)).put (k * 14 + 3) (.int .i64 view)).put (k * 14 + 3 + 1) (.int .i64 inst)).put (k * 14 + 3 + 2) (.int .i64 seq)).put (k * 14 + 3 + 3) v1).put (k * 14 + 3 + 4) v2)
  rw [put_cert' x.l k hk ⟨view, inst, seq, v1, v2, l, vs⟩] at h1
  exact oi_place (c := ⟨view, inst, seq, v1, v2, l, vs⟩) (h1.perm (List.perm_middle (l₁ := [_, _, _])).symm) hk rfl rfl hn hm (.inl ⟨rfl, rfl⟩)

/-- What a call leaves that tells a certificate, or none. -/
def CertP (B : Nat) (w0 W : World) (i : Nat) (r : Option Cp) (st : In) (ss : List Res) (e : Ending) (w' : World) : Prop :=
  ∃ c : Ct, e = .returned (.tuple #[ctAgg c, .bool r.isSome]) ∧ c.cp = r.getD noCp ∧ (c.rs.length ≤ 100000 ∧ c.vs.length ≤ 100000) ∧ Bat w' c.vb c.rs ∧ Vts w' c.vv c.vs ∧ (∀ k ∈ blkOf c.vb, W.heap.size ≤ k) ∧ (∀ k ∈ blkOf c.vv, W.heap.size ≤ k) ∧
    ∃ x' : Ins, x'.i = i ∧ x'.st = st ∧ Own B w0 w' (redR c.vv 2 c.vs.length (vsCells c.vs) :: redR c.vb 6 c.rs.length (rqsCells c.rs) :: instR x' :: ss)

def noCt : Ct := ⟨0, 0, 0, .slice none 0 0, .slice none 0 0, [], []⟩

theorem certP_none {st : In} {r : Option Cp} (h : Own B w0 W' (instR x :: ss)) (hr : r = none) (hst : st = x.st) : CertP B w0 W x.i r st ss (.returned (.tuple #[ctAgg noCt, .bool false])) W' := by
  subst hr
  exact ⟨noCt, rfl, rfl, by simp [noCt], Reads.nil _ _, Reads.nil _ _, by simp [noCt, blkOf], by simp [noCt, blkOf], x, rfl, hst.symm, (h.red (Reads.nil _ _) (by simp [blkIf])).red (Reads.nil _ _) (by simp [blkIf, noCt])⟩

end
end Go.Proofs.YtimdphlolmbhnaaGreat
