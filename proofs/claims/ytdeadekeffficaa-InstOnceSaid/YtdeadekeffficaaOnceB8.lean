/- Parts of the proof, one behind the other. -/
import Derived.Test.YtdeadekeffficaaOnceB7

/- What psephoslaw15.InstOnce keeps in memory. -/
namespace Go.Proofs.Ytdeadekeffficaa
open Go.RowKit Go.Heap

section
variable {B : Nat} {w0 W W' : World} {ss rs : List Res} {i p : Nat} {st sd : In}

theorem own_seg {b : Nat} {T : TypeId} {cur : Array Value} {vals : List Value} (h : Own B w0 W (blk b (.cells cur T (0, 0)) :: rs)) (e : cur.toList = vals) : Own B w0 W (segR b T vals :: rs) := by
  have hb := h.blk_out
  refine h.alter (r' := segR b T vals) ⟨[], ⟨⟨cur, hb, by rw [← e]; simp, fun j hj => by rw [← e]; simp⟩, rfl⟩, by simp, fun k hk => h.lt k hk⟩ (fun k hk => hk)

theorem ai_turn {r r' : Res} (h : AtI B w0 W i st (r :: ss)) (f : ∀ rs, Own B w0 W (r :: rs) → Own B w0 W' (r' :: rs)) : AtI B w0 W' i st (r' :: ss) := let ⟨x, e1, e2, o⟩ := h; ⟨x, e1, e2, (f _ o.swap).swap⟩
theorem ai_inew {r : Res} (h : AtI B w0 W i st ss) (f : ∀ rs, Own B w0 W rs → Own B w0 W' (r :: rs)) : AtI B w0 W' i st (r :: ss) := let ⟨x, e1, e2, o⟩ := h; ⟨x, e1, e2, (f _ o).swap⟩
theorem ai_two {r1 r2 r : Res} (h : AtI B w0 W i st (r1 :: r2 :: ss)) (f : ∀ rs, Own B w0 W (r1 :: r2 :: rs) → Own B w0 W (r :: rs)) : AtI B w0 W i st (r :: ss) := let ⟨x, e1, e2, o⟩ := h; ⟨x, e1, e2, (f _ o.rot').swap⟩
theorem ai_ok (h : AtI B w0 W i st ss) : st.l.length = 16 ∧ 0 ≤ st.view ∧ st.view ≤ 12 := by
  obtain ⟨x, -, rfl, o⟩ := h
  have h := own_ok o
  exact ⟨by simp [Ins.st, h.n], h.vw.1, h.vw.2⟩

theorem ctv_none {r : Nat → Value} {a : Nat} {D : List Nat} (h0 : r a = .int .i64 0) (h1 : r (a + 1) = .int .i64 0) (h2 : r (a + 2) = .int .i64 0) (h3 : r (a + 3) = .slice none 0 0) (h4 : r (a + 4) = .slice none 0 0) : CtV W r a noCp D :=
  ⟨noCt, rfl, ⟨ReadsIn.nil _ _ _, by simp [noCt], ReadsIn.nil _ _ _, by simp [noCt]⟩, h0, h1, h2, h3, h4⟩

def zrow (q : Nat) : Value := if q = 1 ∨ q = 2 ∨ q = 3 ∨ q = 8 ∨ q = 9 ∨ q = 13 ∨ q = 14 then .slice none 0 0 else if q = 0 ∨ q = 4 ∨ q = 15 ∨ q = 16 then .bool false else .int .i64 0
def zhead (f : Nat) (num ahead : Int) (k : Nat) : Value := if k = 0 then .int .i64 f else if k = 1 then .int .i64 num else if k = 2 then .int .i64 ahead else if k = 3 then .int .i64 0 else .bool true

theorem docI_new (f : Nat) (num ahead : Int) (hf1 : 1 ≤ f) (hf2 : f ≤ 4) (ha1 : 1 ≤ ahead) (ha2 : ahead ≤ 16) (D : List Nat) : DocI W (zhead f num ahead) (fun _ => zrow) (newI f num ahead) D where
  n := rfl
  f1 := hf1
  f2 := hf2
  h0 := rfl
  h1 := rfl
  h2 := rfl
  h3 := rfl
  h4 := rfl
  a1 := ha1
  a2 := ha2
  vw := ⟨by show (0 : Int) ≤ 0; decide, by show (0 : Int) ≤ 12; decide⟩
  off := fun e => by cases e
  pl := fun k hk => by
    have e : (newI f num ahead).l[k] = emptyPl f := List.getElem_replicate _
    rw [e]
    exact {
      has := rfl
      dc := docIn_empty f
      told := rfl
      ct := ctv_none rfl rfl rfl rfl rfl
      dw := ctv_none rfl rfl rfl rfl rfl
      hc := rfl
      hd := rfl
      n := by simp [chosenS, emptyPl, emptySl]
      pl := by simp [emptyPl, emptySl]; rfl
      cl := by simp [emptyPl, emptySl]; rfl }

/-- A new instance of the document's beside one. -/
theorem ab_start {cur : Array Value} (h : AtI B w0 W i st ss) (f : Nat) (num ahead : Int) (hf1 : 1 ≤ f) (hf2 : f ≤ 4) (ha1 : 1 ≤ ahead) (ha2 : ahead ≤ 16) (hc : cur.toList = (List.range 294).map (docCell (zhead f num ahead) fun _ => zrow)) :
    AtB B w0 (W.alloc (.cells cur 95 (0, 0))) i st W.heap.size (newI f num ahead) ss := by
  obtain ⟨x, e1, e2, o⟩ := h
  have hu : Upd [] W (W.alloc (.cells cur 95 (0, 0))) := (Upd.refl _ _).alloc _
  have hsz : cur.size = 294 := by rw [← Array.length_toList, hc]; simp
  have o2 : Own B w0 (W.alloc (.cells cur 95 (0, 0))) (docB W.heap.size (zhead f num ahead) (fun _ => zrow) :: instR x :: ss) := o.new hu ⟨[], ⟨⟨cur, heap_alloc_new _ _, hsz, fun j hj => by
    rw [← Array.getElem?_toList, hc]
    simp [hj]⟩, rfl⟩, by simp, fun k hk => Nat.lt_of_lt_of_le (o.lt k hk) hu.size⟩ (by simp [docB])
  have o3 : Own B w0 (W.alloc (.cells cur 95 (0, 0))) (docI (zhead f num ahead) (fun _ => zrow) (newI f num ahead) :: docB W.heap.size (zhead f num ahead) (fun _ => zrow) :: instR x :: ss) :=
    o2.new (Upd.refl [] _) ⟨[], ⟨docI_new f num ahead hf1 hf2 ha1 ha2 [], by simp⟩, by simp, fun k hk => o2.lt k hk⟩ (by simp [docI, imm])
  exact ⟨x, _, _, e1, e2, o3.perm (by
    refine List.Perm.trans (List.perm_middle (l₁ := [_, _])) ?_
    exact (List.Perm.swap _ _ _).cons _)⟩

theorem seg_int {b : Nat} {T : TypeId} {xs : List Int} {w : World} {A : List Nat} (h : (segR b T (xs.map (.int .i64))).At w A) (j : Nat) (hj : j < xs.length) : b < w.heap.size ∧ w.cell? ⟨b, j, none⟩ = some (.int .i64 xs[j]) ∧ w.frozen? ⟨b, j, none⟩ = false := by
  obtain ⟨h1, h2, h3⟩ := segR_at h
  exact ⟨h1, by rw [h2 j (by simpa using hj)]; simp [hj], h3 j⟩
theorem seg_ct {b : Nat} {T : TypeId} {cts : List Ct} {w : World} {A : List Nat} (h : (segR b T (cts.flatMap ctCells)).At w A) (j : Nat) (hj : j < cts.length) : b < w.heap.size ∧ w.cell? ⟨b, j * 5, none⟩ = some (.int .i64 cts[j].view) ∧ w.cell? ⟨b, j * 5 + 1, none⟩ = some (.int .i64 cts[j].inst) ∧ w.cell? ⟨b, j * 5 + 2, none⟩ = some (.int .i64 cts[j].seq) ∧
    w.cell? ⟨b, j * 5 + 3, none⟩ = some cts[j].vb ∧ w.cell? ⟨b, j * 5 + 4, none⟩ = some cts[j].vv ∧ ∀ o, w.frozen? ⟨b, o, none⟩ = false := by
  obtain ⟨h1, h2, h3⟩ := segR_at h
  have hl : (cts.flatMap ctCells).length = cts.length * 5 := flat_length (cells := ctCells) (sz := 5) (fun _ => rfl) cts
  have hg : ∀ r, r < 5 → w.cell? ⟨b, j * 5 + r, none⟩ = (ctCells cts[j])[r]? := fun r hr => by
    rw [h2 _ (by rw [hl]; omega), flat_at ctCells 5 (fun _ => rfl) cts j r hj hr]
  exact ⟨h1, hg 0 (by omega), hg 1 (by omega), hg 2 (by omega), hg 3 (by omega), hg 4 (by omega), h3⟩

theorem own_segint {b : Nat} {T : TypeId} {xs : List Int} (h : Own B w0 W (segR b T (xs.map (.int .i64)) :: rs)) (j : Nat) (x : Int) : Own B w0 (W.setCell ⟨b, j, none⟩ (.int .i64 x)) (segR b T ((xs.set j x).map (.int .i64)) :: rs) := by
  rw [List.map_set]
  exact h.put j _
theorem own_segct {b : Nat} {T : TypeId} {cts : List Ct} (h : Own B w0 W (segR b T (cts.flatMap ctCells) :: rs)) (j : Nat) (hj : j < cts.length) (c : Ct) :
    Own B w0 (((((W.setCell ⟨b, j * 5, none⟩ (.int .i64 c.view)).setCell ⟨b, j * 5 + 1, none⟩ (.int .i64 c.inst)).setCell ⟨b, j * 5 + 2, none⟩ (.int .i64 c.seq)).setCell ⟨b, j * 5 + 3, none⟩ c.vb).setCell ⟨b, j * 5 + 4, none⟩ c.vv) (segR b T ((cts.set j c).flatMap ctCells) :: rs) := by
  have h5 := ((((h.put (j * 5) (.int .i64 c.view)).put (j * 5 + 1) (.int .i64 c.inst)).put (j * 5 + 2) (.int .i64 c.seq)).put (j * 5 + 3) c.vb).put (j * 5 + 4) c.vv
  have e : ((((((cts.flatMap ctCells).set (j * 5) (.int .i64 c.view)).set (j * 5 + 1) (.int .i64 c.inst)).set (j * 5 + 2) (.int .i64 c.seq)).set (j * 5 + 3) c.vb).set (j * 5 + 4) c.vv) = (cts.set j c).flatMap ctCells := by
    have hj0 : cts[j]? = some cts[j] := by simp
    have q0 := flat_set (cells := ctCells) (sz := 5) (fun _ => rfl) cts j 0 cts[j] { cts[j] with view := c.view } (.int .i64 c.view) hj0 (by omega) rfl
    have q1 := flat_set (cells := ctCells) (sz := 5) (fun _ => rfl) (cts.set j { cts[j] with view := c.view }) j 1 { cts[j] with view := c.view } { cts[j] with view := c.view, inst := c.inst } (.int .i64 c.inst) (by simp [hj]) (by omega) rfl
    have q2 := flat_set (cells := ctCells) (sz := 5) (fun _ => rfl) (cts.set j { cts[j] with view := c.view, inst := c.inst }) j 2 { cts[j] with view := c.view, inst := c.inst } { cts[j] with view := c.view, inst := c.inst, seq := c.seq } (.int .i64 c.seq) (by simp [hj]) (by omega) rfl
    have q3 := flat_set (cells := ctCells) (sz := 5) (fun _ => rfl) (cts.set j { cts[j] with view := c.view, inst := c.inst, seq := c.seq }) j 3 { cts[j] with view := c.view, inst := c.inst, seq := c.seq } { cts[j] with view := c.view, inst := c.inst, seq := c.seq, vb := c.vb } c.vb (by simp [hj]) (by omega) rfl
    have q4 := flat_set (cells := ctCells) (sz := 5) (fun _ => rfl) (cts.set j { cts[j] with view := c.view, inst := c.inst, seq := c.seq, vb := c.vb }) j 4 { cts[j] with view := c.view, inst := c.inst, seq := c.seq, vb := c.vb } c c.vv (by simp [hj]) (by omega) rfl
    simp only [List.set_set] at q1 q2 q3 q4
    rw [Nat.add_zero] at q0
    rw [q0, q1, q2, q3, q4]
  rw [← e]
  exact h5

/-- A certificate of the table is another one, whose parts are at hand. -/
theorem cts_put {cts : List Ct} {c : Ct} (j : Nat) (h : Own B w0 W (votR c.vv c.vs :: batR c.vb c.rs :: ctsR cts :: rs)) (hn : c.rs.length ≤ 100000) (hm : c.vs.length ≤ 100000) : Own B w0 W (ctsR (cts.set j c) :: rs) := by
  have h1 := cts_add h hn hm
  exact own_tell h1 (fun D hq c' hc' => by
    rcases List.mem_or_eq_of_mem_set hc' with hc' | rfl
    · exact hq c' (List.mem_append_left _ hc')
    · exact hq _ (by simp))

section
variable {pr : List Int} {tb : List Cp} {k : Nat}
theorem OnceI.prepK (h : OnceI st pr tb) (hk1 : 1 ≤ k) (hk : k ≤ 16) {c : Cp} (hc : prepI st (k : Int) = some c) :
    c.view = st.view ∧ c.seq = (k : Int) ∧ st.on = true ∧ (∀ x, pr[k]? = some x → x ≤ c.view) ∧ (preparedI st (k : Int)).view = st.view ∧ (preparedI st (k : Int)).on = st.on ∧ OnceI (preparedI st (k : Int)) (pr.set k (1 + c.view)) tb := by
  obtain ⟨j, rfl⟩ : ∃ j, k = j + 1 := ⟨k - 1, by omega⟩
  have e : ((j + 1 : Nat) : Int) = (j : Int) + 1 := by simp
  rw [e] at hc ⊢
  exact h.prep (by omega) hc
theorem OnceI.commK (h : OnceI st pr tb) (hk1 : 1 ≤ k) (hk : k ≤ 16) {c : Cp} (hc : committedI st (k : Int) = some c) : OnceI st pr (tb.set k c) := by
  obtain ⟨j, rfl⟩ : ∃ j, k = j + 1 := ⟨k - 1, by omega⟩
  have e : ((j + 1 : Nat) : Int) = (j : Int) + 1 := by simp
  rw [e] at hc
  exact h.comm (by omega) hc
theorem OnceI.sameK (h : OnceI st pr tb) (hk1 : 1 ≤ k) (hk : k ≤ 16) {c : Cp} (hc : tb[k]? = some c) (h0 : 0 < c.seq) : committedI st (k : Int) = some c := by
  obtain ⟨j, rfl⟩ : ∃ j, k = j + 1 := ⟨k - 1, by omega⟩
  have e : ((j + 1 : Nat) : Int) = (j : Int) + 1 := by simp
  rw [e]
  exact h.same (by omega) hc h0
end

theorem prep_no' {seq : Int} (h : prepI st seq = none) : preparedI st seq = st := prep_off h

theorem ai_committed2 (h : AtI B w0 W i st ss) (seq : Int) : Calls Try.prog 42 #[.pointer (some ⟨i, 0, none⟩), .int .i64 seq] W fun e w' => ∃ c : Ct, e = .returned (.tuple #[ctAgg c, .bool (committedI st seq).isSome]) ∧ Told W w' (committedI st seq) c ∧
    AtI B w0 w' i st (redR c.vv 2 c.vs.length (vsCells c.vs) :: redR c.vb 6 c.rs.length (rqsCells c.rs) :: ss) := by
  obtain ⟨x, h1, rfl, h3⟩ := h
  refine (ins_committed h3 h1 seq).mono ?_
  rintro e w' ⟨c, he, hc, hn, hb, hv, n1, n2, x', e1, e2, e3⟩
  exact ⟨c, he, ⟨hc, hn, hb, hv, n1, n2⟩, x', e1, e2, e3.rot⟩

theorem ctsR_get {w : World} {A : List Nat} {cts : List Ct} {c : Ct} (h : (ctsR cts).At w A) (hc : c ∈ cts) : Bat w c.vb c.rs ∧ c.rs.length ≤ 100000 ∧ Vts w c.vv c.vs ∧ c.vs.length ≤ 100000 :=
  let ⟨_, q, _⟩ := h
  let ⟨h1, h2, h3, h4⟩ := q.1 c hc
  ⟨h1.1, h2, h3.1, h4⟩

/-- The document's instance is forgotten. -/
theorem ab_undo (h : AtB B w0 W i st p sd ss) : AtI B w0 W i st ss := by
  obtain ⟨a, m, hx⟩ := ab_x h
  exact ai_drop (ai_drop hx)

end
end Go.Proofs.Ytdeadekeffficaa

/- psephoslaw15.InstOnce walked. -/
namespace Go.Proofs.Ytdeadekeffficaa
open Go.RowKit Go.Heap

theorem Try.zc95 (f : Nat) : (((Try.zeroCells95.setIfInBounds 0 (.int .i64 f)).setIfInBounds 2 (.int .i64 16)).setIfInBounds 4 (.bool true)).toList = (List.range 294).map (docCell (zhead f 0 16) fun _ => zrow) := by kernel_rfl

/-- What InstOnce keeps: the instance, two tables. -/
def OcS (w wx : World) (i bp bt : Nat) : Prop := ∃ st prL cts, OnceI st prL (cts.map Ct.cp) ∧ AtI w.heap.size w wx i st [segR bp 86 (prL.map (.int .i64)), segR bt 87 (cts.flatMap ctCells), ctsR cts]

theorem Try.zc87 : Try.zeroCells87.toList = (List.replicate 17 noCt).flatMap ctCells := by kernel_rfl

theorem ocs_start {w W : World} {i f : Nat} {num ahead : Int} {p87 : Array Value} (h : AtI w.heap.size w W i (newI f num ahead) []) (e : p87.toList = (List.replicate 17 noCt).flatMap ctCells) :
    OcS w ((W.alloc (.cells #[.int .i64 0, .int .i64 0, .int .i64 0, .int .i64 0, .int .i64 0, .int .i64 0, .int .i64 0, .int .i64 0, .int .i64 0, .int .i64 0, .int .i64 0, .int .i64 0, .int .i64 0, .int .i64 0, .int .i64 0, .int .i64 0, .int .i64 0] 86 (0, 0))).alloc (.cells p87 87 (0, 0))) i W.heap.size (W.heap.size + 1) := by
  refine ⟨newI f num ahead, List.replicate 17 0, List.replicate 17 noCt, ?_, ?_⟩
  · have : (List.replicate 17 noCt).map Ct.cp = List.replicate 17 noCp := by simp [noCt, noCp, Ct.cp]
    rw [this]
    exact OnceI.new f num ahead
  · have h0 := ai_inew (r := ctsR (List.replicate 17 noCt)) h (fun rs q => q.new (Upd.refl [] _) ⟨[], ⟨fun c hc => by
      rw [List.eq_of_mem_replicate hc]
      exact ⟨ReadsIn.nil _ _ _, by simp [noCt], ReadsIn.nil _ _ _, by simp [noCt]⟩, by simp⟩, by simp, fun k hk => q.lt k hk⟩ (by simp [ctsR, imm]))
    have h1 := ai_turn (ai_box h0 (.cells #[.int .i64 0, .int .i64 0, .int .i64 0, .int .i64 0, .int .i64 0, .int .i64 0, .int .i64 0, .int .i64 0, .int .i64 0, .int .i64 0, .int .i64 0, .int .i64 0, .int .i64 0, .int .i64 0, .int .i64 0, .int .i64 0, .int .i64 0] 86 (0, 0))) (fun rs q => own_seg (vals := (List.replicate 17 (0 : Int)).map (.int .i64)) q rfl)
    have h2 := ai_turn (ai_box h1 (.cells p87 87 (0, 0))) (fun rs q => own_seg q e)
    have hz : (W.alloc (.cells #[.int .i64 0, .int .i64 0, .int .i64 0, .int .i64 0, .int .i64 0, .int .i64 0, .int .i64 0, .int .i64 0, .int .i64 0, .int .i64 0, .int .i64 0, .int .i64 0, .int .i64 0, .int .i64 0, .int .i64 0, .int .i64 0, .int .i64 0] 86 (0, 0))).heap.size = W.heap.size + 1 := by rw [hs_alloc]
    rw [hz] at h2
    exact ai_perm h2 (List.Perm.swap _ _ _)

theorem ocs_upd {w W W' : World} {i bp bt : Nat} (h : OcS w W i bp bt) (hu : Upd [] W W') : OcS w W' i bp bt := let ⟨a, b, c, h1, h2⟩ := h; ⟨a, b, c, h1, h2.upd0 hu⟩

theorem oc_put {w W : World} {i bp bt b : Nat} {st : In} {prL : List Int} {cts : List Ct} {P : Cp} {r : Nat} {o : Obj} {vb vv : Value} (ho : OnceI st prL ((cts.map Ct.cp).set r P))
    (h : AtI w.heap.size w W i st [segR bp 86 (prL.map (.int .i64)), segR bt 87 (cts.flatMap ctCells), ctsR cts, blk b o, votR vv P.vs, batR vb P.rs]) (hr : r < cts.length) (n1 : P.rs.length ≤ 100000) (n2 : P.vs.length ≤ 100000) :
    OcS w (((((W.setCell ⟨bt, r * 5, none⟩ (.int .i64 P.view)).setCell ⟨bt, r * 5 + 1, none⟩ (.int .i64 P.inst)).setCell ⟨bt, r * 5 + 2, none⟩ (.int .i64 P.seq)).setCell ⟨bt, r * 5 + 3, none⟩ vb).setCell ⟨bt, r * 5 + 4, none⟩ vv) i bp bt := by
  obtain ⟨x, e1, e2, q⟩ := h
  have q1 : Own w.heap.size w W (segR bt 87 (cts.flatMap ctCells) :: votR vv P.vs :: batR vb P.rs :: ctsR cts :: instR x :: segR bp 86 (prL.map (.int .i64)) :: [blk b o]) := q.perm (by
    have p0 : List.Perm [instR x, segR bp 86 (prL.map (.int .i64)), segR bt 87 (cts.flatMap ctCells), ctsR cts, blk b o, votR vv P.vs, batR vb P.rs] (batR vb P.rs :: [instR x, segR bp 86 (prL.map (.int .i64)), segR bt 87 (cts.flatMap ctCells), ctsR cts, blk b o, votR vv P.vs]) := List.perm_middle (l₁ := [_, _, _, _, _, _]) (l₂ := [])
    have p1 : List.Perm [instR x, segR bp 86 (prL.map (.int .i64)), segR bt 87 (cts.flatMap ctCells), ctsR cts, blk b o, votR vv P.vs] (votR vv P.vs :: [instR x, segR bp 86 (prL.map (.int .i64)), segR bt 87 (cts.flatMap ctCells), ctsR cts, blk b o]) := List.perm_middle (l₁ := [_, _, _, _, _]) (l₂ := [])
    have p2 : List.Perm [instR x, segR bp 86 (prL.map (.int .i64)), segR bt 87 (cts.flatMap ctCells), ctsR cts, blk b o] (ctsR cts :: [instR x, segR bp 86 (prL.map (.int .i64)), segR bt 87 (cts.flatMap ctCells), blk b o]) := List.perm_middle (l₁ := [_, _, _])
    have p3 : List.Perm [instR x, segR bp 86 (prL.map (.int .i64)), segR bt 87 (cts.flatMap ctCells), blk b o] (segR bt 87 (cts.flatMap ctCells) :: [instR x, segR bp 86 (prL.map (.int .i64)), blk b o]) := List.perm_middle (l₁ := [_, _])
    refine p0.trans (((p1.cons _).trans (((p2.cons _).cons _).trans (((p3.cons _).cons _).cons _))).trans ?_)
    refine List.Perm.trans (List.perm_middle (l₁ := [_, _, _])) (List.Perm.cons _ ?_)
    exact List.Perm.swap _ _ _)
  have q2 := own_segct q1 r hr ⟨P.view, P.inst, P.seq, vb, vv, P.rs, P.vs⟩
  have q3 : Own w.heap.size w _ (votR vv P.vs :: batR vb P.rs :: ctsR cts :: segR bt 87 ((cts.set r ⟨P.view, P.inst, P.seq, vb, vv, P.rs, P.vs⟩).flatMap ctCells) :: instR x :: segR bp 86 (prL.map (.int .i64)) :: [blk b o]) := q2.perm (List.perm_middle (l₁ := [_, _, _])).symm
  have q4 := cts_put (c := ⟨P.view, P.inst, P.seq, vb, vv, P.rs, P.vs⟩) r q3 n1 n2
  refine ⟨st, prL, cts.set r ⟨P.view, P.inst, P.seq, vb, vv, P.rs, P.vs⟩, by rw [List.map_set]; exact ho, x, e1, e2, ?_⟩
  have q5 := (q4.perm (List.perm_middle (l₁ := [_, _, _, _]) (l₂ := []))).drop
  exact q5.perm (by
    refine List.Perm.trans (List.perm_middle (l₁ := [_, _])) (List.Perm.cons _ ?_)
    refine List.Perm.trans (List.perm_middle (l₁ := [_, _]) (l₂ := [])) (List.Perm.cons _ ?_)
    exact List.Perm.swap _ _ _)

set_option maxHeartbeats 16000000 in
set_option maxRecDepth 100000 in
theorem once_any (f : Int) (v : Value) (xs : List A7) {w : World} (hv : Acts7 w v xs) :
    Calls Try.prog 13 #[.int .i64 f, v] w fun e w' => e = .returned (.bool true) ∧ Below w.heap.size w w' := by
  have HV := Lib.hid hv
  obtain ⟨ao, cap, rfl, hl1, hl2, -⟩ := id hv
  have hmx : xs.length ≤ 9223372036854775807 := by unfold maxLen at hl2; omega
  clear hl1 hl2 hv
  obtain ⟨k1, k2⟩ := emod_in f 2 (by omega)
  go_enter Try.func13, Try.ntmps13
  go_wp2_with fail
  refine (Within_any f 2 _ (by omega) (by omega)).mono ?_
  rintro e w' ⟨rfl, rfl⟩
  generalize f % 2 = q at *
  obtain ⟨f', hf⟩ : ∃ f' : Nat, 1 + q = f' := ⟨(1 + q).toNat, by omega⟩
  have hs1 : IntKind.i64.wrap (1 + q) = (f' : Int) := by rw [IntWalk.i64_in _ (by omega), hf]
  have hg1 : 1 ≤ f' := by omega
  have hg2 : f' ≤ 4 := by omega
  clear hf k1 k2
  go_wp2_with fail
  refine (ai_new f' 0 16 hg1 hg2 (by omega) (by omega) (by omega) (by omega) (Own.start (Below.refl w.heap.size w) (Nat.le_refl _))).mono ?_
  rintro e w1 ⟨i, rfl, h1⟩
  have H1 := Lib.hid h1
  clear h1 hs1
  go_upto_region 7 with fail
  have H2 := Lib.hid (ocs_start H1.out Try.zc87)
  generalize w1.heap.size = bp at *
  generalize (w1.alloc _).alloc _ = w2 at *
  clear H1
  generalize bp + 1 = bt at *
  go_upto_block 0 with fail
  go_cut [] (fun wx => Hid (OcS w wx i bp bt))
  case first =>
    go_wp2_with fail
    go_loopw [9] (fun j wr => ∃ k : Nat, k ≤ xs.length ∧ j = .int .i64 k ∧ Hid (OcS w wr i bp bt)) (fun j _ => xs.length - (intOf j).toNat)
    case atStart => exact ⟨0, by omega, rfl, H2⟩
    case round =>
      clear H2
      obtain ⟨k, hk, rfl, H2⟩ := hrel
      by_cases hlt : k < xs.length
      · have hkI : (k : Int) < (xs.length : Int) := by omega
        by_cases h120 : k < 120
        · have hk120 : (k : Int) < 120 := by omega
          obtain ⟨st, prL, cts, ho, h1⟩ := H2.out
          have hat := (HV.out.below (Upd.of_below h1.below)).at k hlt
          obtain ⟨-, b, o, rfl, hbl, c0, c1, c2, c3, c4, c5, c6⟩ := hat
          have H1 := Lib.hid h1
          have HO := Lib.hid ho
          clear h1 ho H2
          generalize xs[k] = X at *
          obtain ⟨act, seq, kind, node, sl, which, view⟩ := X
          simp only at c0 c1 c2 c3 c4 c5 c6
          have H3 := Lib.hid (ai_box H1.out (a7O ⟨act, seq % 4, kind % 6, node, sl, which, view⟩)).drew
          go_upto_region 11 with fail
          go_cut [] (fun wx => Hid (AtI w.heap.size w wx i st (blk wr.heap.size (a7O ⟨act, seq % 4, kind % 6, node, sl, which, view⟩) :: [segR bp 86 (prL.map (.int .i64)), segR bt 87 (cts.flatMap ctCells), ctsR cts])))
          case first =>
            go_region_with (go_at_call 17; refine (Within_any _ _ _ ?_ ?_).mono ?_; omega; omega; rintro e w' ⟨rfl, rfl⟩)
            all_goals
              go_wp2_with fail
              go_meet
              exact H3
          case rest =>
            have H4 := Lib.hid hcut.out
            clear hcut H3 c0 c1 c2 c3 c4 c5 c6
            generalize hA : (⟨act, seq % 4, kind % 6, node, sl, which, view⟩ : A7) = A at *
            clear hA
            obtain ⟨b0, b1, b2, b3, b4, b5, b6⟩ := a7_box (ai_blk H4.out)
            generalize wr.heap.size = bA at *
            clear hbl
            have hbA := block_lt (ai_blk H4.out)
            have HD := Lib.hid (do15_any A (ab_start H4.out f' 0 16 hg1 hg2 (by omega) (by omega) (Try.zc95 f')))
            go_wp2_with fail
            refine HD.out.mono ?_
            rintro e w5 ⟨t, rfl, -, h5⟩
            have h6 := ai_drop (ab_undo h5)
            have HS : Hid (OcS w w5 i bp bt) := Lib.hid ⟨_, prL, cts, HO.out.le (le_step st A) (ai_ok h6).2.2, h6⟩
            clear h5 h6 HD H4 HO b0 b1 b2 b3 b4 b5 b6 hbA
            go_wp2_with fail
            go_loopw [11] (fun j wr => ∃ r : Nat, 1 ≤ r ∧ r ≤ 4 ∧ j = .int .i64 r ∧ Hid (OcS w wr i bp bt)) (fun j _ => 4 - (intOf j).toNat)
            case atStart => exact ⟨1, by omega, by omega, rfl, HS⟩
            case round =>
              clear HS
              obtain ⟨r, hr1, hr4, rfl, HS⟩ := hrel
              by_cases hr3 : r ≤ 3
              · have hrI : (r : Int) ≤ 3 := by omega
                have hr0 : (0 : Int) ≤ (r : Int) := by omega
                have hr17 : (r : Int) < 17 := by omega
                obtain ⟨st, prL, cts, ho, h1⟩ := HS.out
                have hvw := ho.vw
                have HP := Lib.hid (ai_prepared2 h1 (r : Int))
                have HON := Lib.hid (fun (P : Cp) (hc : prepI st (r : Int) = some P) => ho.prepK hr1 (by omega) hc)
                have HOF := Lib.hid (fun (hc : prepI st (r : Int) = none) => prep_no' hc)
                have HO := Lib.hid ho
                have hpl : r < prL.length := by rw [ho.np]; omega
                clear HS h1 ho
                go_wp2_with fail
                refine HP.out.mono ?_
                rintro e w6 ⟨c, rfl, hc, h2⟩
                obtain ⟨cao, ccap, cco, ccav, rfl, -⟩ := told_form hc rfl
                have H2 := Lib.hid h2
                clear hc h2 HP
                have HQ := Lib.hid (show (prepI st (r : Int)).isSome = false → prepI st (r : Int) = none by intro h; simpa using h)
                have HQ2 := Lib.hid (show (prepI st (r : Int)).isSome = true → prepI st (r : Int) = some ((prepI st (r : Int)).getD noCp) by intro h; obtain ⟨x, hx⟩ := Option.isSome_iff_exists.1 h; rw [hx]; rfl)
                generalize (prepI st (r : Int)).isSome = bp1 at *
                generalize (prepI st (r : Int)).getD noCp = P at *
                have h3 := ai_perm (ai_box H2.out (ctO P.view P.inst P.seq (.slice cao P.rs.length ccap) (.slice cco P.vs.length ccav))) (((List.perm_append_comm (l₁ := [_, _, _]) (l₂ := [_, _, _]))))
                have H3 := Lib.hid h3
                obtain ⟨f0, f1, f2, f3, f4, fl, -⟩ := ct_cells (ai_blk (ai_box H2.out (ctO P.view P.inst P.seq (.slice cao P.rs.length ccap) (.slice cco P.vs.length ccav))))
                clear h3 H2
                go_upto_if 68 with fail
                generalize w6.alloc (ctO P.view P.inst P.seq (.slice cao P.rs.length ccap) (.slice cco P.vs.length ccav)) = w7 at *
                generalize w6.heap.size = b12 at *
                go_cut [] (fun wx => Hid (OcS w wx i bp bt))
                case first =>
                  cases hb : bp1 with
                  | false =>
                    have HN := Lib.hid (HOF.out (HQ.out hb))
                    subst hb
                    go_wp2_with fail
                    go_meet
                    have h4 := H3.out
                    rw [HN.out] at h4
                    exact Lib.hid ⟨st, prL, cts, HO.out, ai_perm (ai_drop (ai_drop (ai_drop (ai_perm h4 (List.perm_append_comm (l₁ := [_, _, _]) (l₂ := [_, _, _])))))) (List.Perm.refl _)⟩
                  | true =>
                    subst hb
                    obtain ⟨p1, p2, p3, p4, p5, p6, p7⟩ := HON.out P (HQ2.out rfl)
                    have hx := p4 prL[r] (by simp)
                    have e1 : decide (P.view < prL[r]) = false := by simp; omega
                    have e2 : (P.view != st.view) = false := by simp [p1]
                    have e3 : (P.seq != (r : Int)) = false := by simp [p2]
                    have hsum : IntKind.i64.wrap (1 + P.view) = 1 + P.view := IntWalk.i64_in _ (by omega)
                    have HVW := Lib.hid (fun n => ai_view (H3.out.upd0 ((Upd.refl _ _).drewN n)))
                    have HIN := Lib.hid (fun n => ai_installed (H3.out.upd0 ((Upd.refl _ _).drewN n)))
                    rw [p5] at HVW
                    rw [p6, p3] at HIN
                    obtain ⟨sl, s1, z1⟩ := seg_int (xs := prL) H3.out.ss_own.head r hpl
                    have P7 := Lib.hid p7
                    clear p1 p2 p3 p4 p5 p6 p7 hx HON HOF HQ HQ2
                    go_wp2_with fail
                    go_quiet (first | (go_at_call 50; exact quiet_eq (HVW.out _)) | (go_at_call 51; exact quiet_eq (HIN.out _)))
                    go_wp2_with fail
                    go_meet
                    have h4 := ai_turn (H3.out.upd0 ((Upd.refl _ _).drewN nq)) (fun rs q => own_segint q r (1 + P.view))
                    exact Lib.hid ⟨_, prL.set r (1 + P.view), cts, P7.out, ai_drop (ai_drop (ai_drop (ai_perm h4 (List.perm_append_comm (l₁ := [_, _, _]) (l₂ := [_, _, _])))))⟩
                case rest =>
                  have HS2 := Lib.hid hcut.out
                  clear hcut H3 f0 f1 f2 f3 f4 fl HON HOF HQ HQ2 HO hvw hpl
                  obtain ⟨st, prL, cts, ho, h1⟩ := HS2.out
                  have HP := Lib.hid (ai_committed2 h1 (r : Int))
                  have hcl : r < cts.length := by have := ho.nt; rw [List.length_map] at this; omega
                  have HSM := Lib.hid (fun (h0 : 0 < cts[r].seq) => ho.sameK hr1 (by omega) (c := cts[r].cp) (by simp [hcl]) h0)
                  have HCM := Lib.hid (fun (P : Cp) (hc : committedI st (r : Int) = some P) => ho.commK hr1 (by omega) hc)
                  have HO := Lib.hid ho
                  clear HS2 h1 ho
                  go_wp2_with fail
                  refine HP.out.mono ?_
                  rintro e w6 ⟨c, rfl, hc, h2⟩
                  obtain ⟨cao, ccap, cco, ccav, rfl, ⟨hs1, hs2⟩, -⟩ := told_form hc rfl
                  have H2 := Lib.hid h2
                  clear hc h2 HP
                  have HQ2 := Lib.hid (show (committedI st (r : Int)).isSome = true → committedI st (r : Int) = some ((committedI st (r : Int)).getD noCp) by intro h; obtain ⟨x, hx⟩ := Option.isSome_iff_exists.1 h; rw [hx]; rfl)
                  have HQ := Lib.hid (fun (h0 : 0 < cts[r].seq) => show (committedI st (r : Int)).isSome = true by rw [HSM.out h0]; rfl)
                  have HQ3 := Lib.hid (fun (h0 : 0 < cts[r].seq) => show (committedI st (r : Int)).getD noCp = cts[r].cp by rw [HSM.out h0]; rfl)
                  generalize (committedI st (r : Int)).isSome = bp1 at *
                  generalize (committedI st (r : Int)).getD noCp = P at *
                  go_upto_region 22 with fail
                  have h3 := ai_perm (ai_box H2.out (ctO P.view P.inst P.seq (.slice cao P.rs.length ccap) (.slice cco P.vs.length ccav))) (((List.perm_append_comm (l₁ := [_, _, _]) (l₂ := [_, _, _]))))
                  have H3 := Lib.hid h3
                  obtain ⟨f0, f1, f2, f3, f4, fl, -⟩ := ct_cells (ai_blk (ai_box H2.out (ctO P.view P.inst P.seq (.slice cao P.rs.length ccap) (.slice cco P.vs.length ccav))))
                  clear h3 H2
                  generalize w6.alloc (ctO P.view P.inst P.seq (.slice cao P.rs.length ccap) (.slice cco P.vs.length ccav)) = w7 at *
                  generalize w6.heap.size = b14 at *
                  obtain ⟨sl, s0, s1, s2, s3, s4, sz⟩ := seg_ct (cts := cts) H3.out.ss_own.drop.head r hcl
                  obtain ⟨kb, kn, kv, km⟩ := ctsR_get (c := cts[r]) H3.out.ss_own.drop.drop.head (List.getElem_mem hcl)
                  obtain ⟨dao, dcap, hdb⟩ := bat_form kb
                  obtain ⟨dco, dcav, hdv⟩ := vts_form kv
                  have HKC := Lib.hid (fun w' (hu : Upd [] w7 w') => keepCert_dec ⟨P.view, P.inst, P.seq, .slice cao P.rs.length ccap, .slice cco P.vs.length ccav, P.rs, P.vs⟩ cts[r] w' hs1 hs2 kn km ((redR_out H3.out.ss_own.drop.drop.drop.drop.drop.head).upd (M := []) hu (by simp)) ((redR_out H3.out.ss_own.drop.drop.drop.drop.head).upd (M := []) hu (by simp)) (kb.upd (M := []) hu (by simp)) (kv.upd (M := []) hu (by simp)))
                  unfold ctAgg at HKC
                  rw [hdb, hdv] at HKC
                  rw [hdb] at s3
                  rw [hdv] at s4
                  have z0 := sz (r * 5)
                  have z1 := sz (r * 5 + 1)
                  have z2 := sz (r * 5 + 2)
                  have z3 := sz (r * 5 + 3)
                  have z4 := sz (r * 5 + 4)
                  have HPUT := Lib.hid (fun w8 (h8 : AtI w.heap.size w w8 i st [segR bp 86 (prL.map (.int .i64)), segR bt 87 (cts.flatMap ctCells), ctsR cts, blk b14 (ctO P.view P.inst P.seq (.slice cao P.rs.length ccap) (.slice cco P.vs.length ccav)), votR (.slice cco P.vs.length ccav) P.vs, batR (.slice cao P.rs.length ccap) P.rs]) (hb : bp1 = true) => oc_put (P := P) (HCM.out P (HQ2.out hb)) h8 hcl hs1 hs2)
                  clear kb kn kv km hdb hdv sz HCM HQ2
                  cases hb : bp1 with
                  | false =>
                    have h0 : ¬ 0 < cts[r].seq := fun h0 => by have := HQ.out h0; rw [hb] at this; cases this
                    have e0 : decide (0 < cts[r].seq) = false := by simp; omega
                    have H4 : Hid (OcS w w7 i bp bt) := Lib.hid ⟨st, prL, cts, HO.out, ai_drop (ai_drop (ai_drop (ai_perm H3.out (List.perm_append_comm (l₁ := [_, _, _]) (l₂ := [_, _, _])))))⟩
                    subst hb
                    clear h0 HKC HPUT HSM H3
                    go_quiet (fail)
                    go_wp2_with fail
                    go_roundw
                    case rel => exact ⟨r + 1, by omega, by omega, by go_num, Lib.hid (ocs_upd H4.out ((Upd.refl _ _).drewN _))⟩
                    case measure => simp [intOf]; omega
                  | true =>
                    subst hb
                    by_cases h0 : 0 < cts[r].seq
                    · have e0 : decide (0 < cts[r].seq) = true := by simp [h0]
                      have HE := Lib.hid (HQ3.out h0)
                      clear h0 HQ HQ3 HSM
                      refine Mix.wp_text2 (by kernel_rfl) (by kernel_rfl) ?_
                      go_wp2_with fail
                      refine (HKC.out _ (Upd.refl _ _).drew).mono ?_
                      rintro e w8 ⟨rfl, hu8⟩
                      rw [decide_eq_true (show Ct.cp ⟨P.view, P.inst, P.seq, .slice cao P.rs.length ccap, .slice cco P.vs.length ccav, P.rs, P.vs⟩ = cts[r].cp from HE.out)]
                      have H8 := Lib.hid (H3.out.drew.upd0 hu8)
                      obtain ⟨-, t0, t1, t2, t3, t4, tz⟩ := seg_ct (cts := cts) H8.out.ss_own.drop.head r hcl
                      obtain ⟨g0, g1, g2, g3, g4, gl, -⟩ := ct_cells (H8.out.ss_own.drop.drop.drop.blk_out)
                      have y0 := tz (r * 5)
                      have y1 := tz (r * 5 + 1)
                      have y2 := tz (r * 5 + 2)
                      have y3 := tz (r * 5 + 3)
                      have y4 := tz (r * 5 + 4)
                      clear hu8 f0 f1 f2 f3 f4 fl s0 s1 s2 s3 s4 z0 z1 z2 z3 z4 tz sl H3
                      go_wp2_with fail
                      refine ⟨by rfl, ?_⟩
                      go_wp2_with fail
                      have H9 := Lib.hid (HPUT.out _ H8.out (by trivial))
                      go_roundw
                      case rel => exact ⟨r + 1, by omega, by omega, by go_num, H9⟩
                      case measure => simp [intOf]; omega
                    · have e0 : decide (0 < cts[r].seq) = false := by simp; omega
                      clear h0 HQ HQ3 HSM HKC
                      go_quiet (fail)
                      go_wp2_with fail
                      have H9 := Lib.hid (HPUT.out _ (H3.out.upd0 ((Upd.refl _ _).drewN nq)) (by trivial))
                      go_roundw
                      case rel => exact ⟨r + 1, by omega, by omega, by go_num, H9⟩
                      case measure => simp [intOf]; omega
              · have hrI : decide ((r : Int) ≤ 3) = false := by simp; omega
                go_wp2_with fail
                go_roundw
                case rel => exact ⟨k + 1, by omega, by go_num, HS⟩
                case measure => simp [intOf]; omega
        · have hk120 : decide ((k : Int) < 120) = false := by simp; omega
          go_wp2_with fail
          go_meet
          exact H2
      · have hkI : decide ((k : Int) < (xs.length : Int)) = false := by simp; omega
        go_wp2_with fail
        go_meet
        exact H2
  case rest =>
    have H3 := Lib.hid hcut.out
    clear hcut H2
    go_wp2_with fail
    refine (wakes15_any _).mono ?_
    rintro e w7 ⟨rfl, hb7⟩
    obtain ⟨st, prL, cts, -, h1⟩ := H3.out
    have H7 := Lib.hid (h1.below.trans (hb7.mono h1.ss_own.size))
    clear hb7 h1 H3
    go_wp2_with fail
    go_ret
    exact ⟨rfl, H7.out⟩

end Go.Proofs.Ytdeadekeffficaa
