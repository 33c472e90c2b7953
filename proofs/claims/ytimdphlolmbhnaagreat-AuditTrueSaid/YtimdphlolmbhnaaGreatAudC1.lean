/- Parts of the proof, one behind the other. -/
import Derived.Test.YtimdphlolmbhnaaGreatAudB15
import Derived.Maps.AppendAt

/- The document's ledger in memory: a block by its places, and what it says. -/
namespace Go.Proofs.YtimdphlolmbhnaaGreat
open Go.RowKit Go.Heap

/-- A block of n cells, told place by place. -/
def funB (p : Nat) (T : TypeId) (n : Nat) (c : Nat → Value) : Res where
  M := [p]
  Q := fun w D => (∃ cur, w.heap[p]? = some (.cells cur T (0, 0)) ∧ cur.size = n ∧ ∀ j, j < n → cur[j]? = some (c j)) ∧ D = []
  dep := fun ⟨⟨cur, h1, h2⟩, e⟩ hk _ => ⟨⟨cur, (hk _ (by simp)).trans h1, h2⟩, e⟩
  lt := fun ⟨⟨cur, h1, h2⟩, e⟩ k hk => by subst e; simp at hk; subst hk; exact block_lt h1
  sep := fun ⟨_, e⟩ k _ hn => by rw [e] at hn; simp at hn

def setF (c : Nat → Value) (k : Nat) (v : Value) : Nat → Value := fun j => if j = k then v else c j

section
variable {B : Nat} {w0 w W W' : World} {rs ss : List Res} {A : List Nat} {p n : Nat} {T : TypeId} {c : Nat → Value} {v : Value}

theorem setF_at (c : Nat → Value) (k : Nat) (v : Value) : setF c k v k = v := by simp [setF]
theorem setF_ne {k j : Nat} (h : j ≠ k) : setF c k v j = c j := by simp [setF, h]

theorem funB_at (hr : (funB p T n c).At w A) : p < w.heap.size ∧ (∀ j, j < n → w.cell? ⟨p, j, none⟩ = some (c j)) ∧ ∀ o, w.frozen? ⟨p, o, none⟩ = false := by
  obtain ⟨D, ⟨⟨cur, h1, h2, h3⟩, -⟩, -, -⟩ := hr
  exact ⟨block_lt h1, fun k hk => by rw [block_cell h1, h3 k hk], block_frozen h1⟩

theorem funB_put (hw : Own B w0 W (funB p T n c :: rs)) (i : Nat) (v : Value) : Own B w0 (W.setCell ⟨p, i, none⟩ v) (funB p T n (setF c i v) :: rs) := by
  have hu : Upd [p] W (W.setCell ⟨p, i, none⟩ v) := (Upd.refl _ _).setCell (.inl (by simp)) v
  obtain ⟨D, ⟨⟨cur, h1, h2, h3⟩, rfl⟩, h4, h5⟩ := hw.head
  refine hw.step (r' := funB p T n (setF c i v)) hu ⟨[], ⟨⟨cur.setIfInBounds i v, by rw [hp_same rfl, h1]; rfl, by simpa using h2, fun j hj => ?_⟩, rfl⟩, by simp, fun k hk => by rw [hs_set]; exact h5 k hk⟩ (fun k hk => .inl hk)
  by_cases hij : i = j
  · subst hij
    rw [Array.getElem?_setIfInBounds_self, if_pos (by omega), setF_at]
  · rw [Array.getElem?_setIfInBounds_ne hij, setF_ne (fun e => hij e.symm)]
    exact h3 j hj

theorem funB_of {cs : Array Value} (h : Own B w0 W (blk p (.cells cs T (0, 0)) :: rs)) (hn : cs.size = n) (hc : ∀ j, j < n → cs[j]? = some (c j)) : Own B w0 W (funB p T n c :: rs) :=
  h.alter ⟨[], ⟨⟨cs, h.blk_out, hn, hc⟩, rfl⟩, by simp, fun k hk => h.lt k hk⟩ (fun k hk => hk)
end

/-- What the document's ledger says: 138 cells. -/
structure LedC (n : Int) (s : Sv) (lv : Value) (c : Nat → Value) : Prop where
  h0 : c 0 = .int .i64 n
  vs : ∀ k, k < 64 → c (1 + k) = .int .i64 (s.vs.getD k 0)
  has : ∀ k, k < 64 → ∃ b, c (65 + k) = .bool b
  tm : ∀ k, k < 4 → c (129 + k) = .int .i64 (s.tm k)
  rs : ∀ k, k < 4 → ∃ v, c (133 + k) = .int .i64 v
  l : c 137 = lv
  ok : VsOk s.vs

section
variable {n : Int} {s : Sv} {lv v : Value} {c : Nat → Value}

theorem getD_set {l : List Int} {k j : Nat} {v : Int} (hk : k < l.length) : (l.set k v).getD j 0 = if j = k then v else l.getD j 0 := by
  by_cases h : j = k
  · subst h; simp [List.getD, hk]
  · simp [List.getD, h, List.getElem?_set_ne (Ne.symm h)]

/-- A key's value and whether it has one. -/
theorem LedC.key (h : LedC n s lv c) (k : Nat) (hk : k < 64) (v : Int) (b : Bool) (h1 : -2147483648 < v) (h2 : v < 2147483648) : LedC n ⟨s.vs.set k v, s.tm⟩ lv (setF (setF c (1 + k) (.int .i64 v)) (65 + k) (.bool b)) where
  h0 := by rw [setF_ne (by omega), setF_ne (by omega), h.h0]
  vs := fun j hj => by
    rw [setF_ne (by omega)]
    simp only [getD_set (by rw [h.ok.1]; exact hk)]
    by_cases e : j = k
    · subst e; rw [setF_at, if_pos rfl]
    · rw [setF_ne (by omega), if_neg e, h.vs j hj]
  has := fun j hj => by
    by_cases e : j = k
    · subst e; exact ⟨b, setF_at _ _ _⟩
    · obtain ⟨x, hx⟩ := h.has j hj
      exact ⟨x, by rw [setF_ne (by omega), setF_ne (by omega), hx]⟩
  tm := fun j hj => by rw [setF_ne (by omega), setF_ne (by omega), h.tm j hj]
  rs := fun j hj => by
    obtain ⟨x, hx⟩ := h.rs j hj
    exact ⟨x, by rw [setF_ne (by omega), setF_ne (by omega), hx]⟩
  l := by rw [setF_ne (by omega), setF_ne (by omega), h.l]
  ok := h.ok.put k h1 h2

/-- A client's time and result. -/
theorem LedC.time (h : LedC n s lv c) (k : Nat) (hk : k < 4) (t r : Int) : LedC n ⟨s.vs, upT s.tm k t⟩ lv (setF (setF c (129 + k) (.int .i64 t)) (133 + k) (.int .i64 r)) where
  h0 := by rw [setF_ne (by omega), setF_ne (by omega), h.h0]
  vs := fun j hj => by rw [setF_ne (by omega), setF_ne (by omega), h.vs j hj]
  has := fun j hj => by
    obtain ⟨x, hx⟩ := h.has j hj
    exact ⟨x, by rw [setF_ne (by omega), setF_ne (by omega), hx]⟩
  tm := fun j hj => by
    rw [setF_ne (by omega)]
    by_cases e : j = k
    · subst e; rw [setF_at]; simp [upT]
    · rw [setF_ne (by omega), h.tm j hj]; simp [upT, e]
  rs := fun j hj => by
    by_cases e : j = k
    · subst e; exact ⟨r, setF_at _ _ _⟩
    · obtain ⟨x, hx⟩ := h.rs j hj
      exact ⟨x, by rw [setF_ne (by omega), setF_ne (by omega), hx]⟩
  l := by rw [setF_ne (by omega), setF_ne (by omega), h.l]
  ok := h.ok

theorem LedC.log (h : LedC n s lv c) (v : Value) : LedC n s v (setF c 137 v) where
  h0 := by rw [setF_ne (by omega), h.h0]
  vs := fun j hj => by rw [setF_ne (by omega), h.vs j hj]
  has := fun j hj => by
    obtain ⟨x, hx⟩ := h.has j hj
    exact ⟨x, by rw [setF_ne (by omega), hx]⟩
  tm := fun j hj => by rw [setF_ne (by omega), h.tm j hj]
  rs := fun j hj => by
    obtain ⟨x, hx⟩ := h.rs j hj
    exact ⟨x, by rw [setF_ne (by omega), hx]⟩
  l := setF_at _ _ _
  ok := h.ok
end

end Go.Proofs.YtimdphlolmbhnaaGreat

/- append(l, m...): l a row of one's own, m any slice that can be read. No program. -/
namespace Go.Heap
open Go Go.RowKit

section
variable {B : Nat} {w0 w W W' : World} {rs : List Res} {E sz n m : Nat} {v v' : Value} {xs ys : List Value}

theorem owns_blk (h : w.ownsRow B E sz v n xs) (k : Nat) : k ∈ blkOf v ↔ v.ownBlock = some k := by
  rcases h.2 with ⟨rfl, _⟩ | ⟨g, cap, cur, rfl, _⟩
  · simp [blkOf, Value.ownBlock]
  · simp only [blkOf, Value.ownBlock, List.mem_singleton, Option.some.injEq]
    exact eq_comm

theorem Own.growAny (h : Own B w0 W (ownR E sz v n xs :: rs)) (hg : W.grownBy W' v.ownBlock) (hat : v'.ownBlock = v.ownBlock ∨ v'.ownBlock = some W.heap.size) (ho : W'.ownsRow 0 E sz v' m ys) : Own B w0 W' (ownR E sz v' m ys :: rs) := by
  have hown := ownR_owns h.head
  have hu : Upd (blkOf v) W W' := (Upd.refl _ _).grown hg (fun k hk => .inl ((owns_blk hown k).2 hk))
  refine h.step (r' := ownR E sz v' m ys) hu ⟨[], ⟨ho, rfl⟩, by simp, fun k hk => Nat.lt_of_lt_of_le (h.lt k hk) hu.size⟩ (fun k hk => ?_)
  have h1 := (owns_blk ho k).1 hk
  rcases hat with hat | hat
  · exact .inl ((owns_blk hown k).2 (hat.symm.trans h1))
  · rw [hat] at h1
    simp only [Option.some.injEq] at h1
    exact .inr (by omega)

theorem wpList_append_row {P : Program} {ops : Array Oper} {rest : List Oper} {o : Oper} {a : Act} {Q : Exit → Act → World → Prop} (hgd : o.guard = none) (s x : Operand) (t : TypeId)
    (ho : o.op = .call { callee := .builtin .append, args := #[s, x], argTypes := #[t, t] })
    (e : TypeId) (i : TypeInfo) (z : Value) (size bytes : Nat) (ht : P.underlying t = some (.slice e)) (hi : P.info? e = some i) (hz : i.zero = some z)
    (hsize : i.size = size) (hby : i.bytes = bytes) (hzs : z.cells.size = size) (hsz : 0 < size)
    (v : Value) (n : Nat) (xs : List Value) (hs : a.eval s = v) (hw : Own B w0 W (ownR e size v n xs :: rs))
    (u : Value) (m : Nat) (ys : List Value) (hx : a.eval x = u) (hr : Reads W u size m ys) (h1 : ∀ u ∈ ys, u.oneCell' = true) (h63 : n + m ≤ maxLen) (hbytes : (n + m) * bytes ≤ 140737488355328)
    (h : ∀ v' w', Own B w0 w' (ownR e size v' (n + m) (xs ++ ys) :: rs) → wpList P ops Q rest (a.put o.dst v') w') : wpList P ops Q (o :: rest) a W := by
  obtain ⟨ao, cap, rfl, hl1, hl2, hl3, hl4, hl5⟩ := hr
  cases ao with
  | none =>
    obtain ⟨rfl, rfl⟩ := hl4 rfl
    have : ys = [] := List.eq_nil_of_length_eq_zero (by simpa using hl3)
    subst this
    exact wpList_append_own_none hgd s x t ho 0 e i size ht hi v n xs hs (ownR_owns hw.head) hx (h _ _ (by simpa using hw))
  | some ad =>
    have hnews : ∀ j u, ys[j]? = some u → W.cell? (ad.add j) = some u := by
      intro j u hj
      have hlt := (List.getElem?_eq_some_iff.1 hj).1
      have hn : 0 < m := by
        rcases Nat.eq_zero_or_pos m with h0 | h0
        · subst h0; omega
        · exact h0
      obtain ⟨b, o, hab, hb, hc⟩ := hl5 hn
      simp only [Option.some.injEq] at hab
      subst hab
      have : (⟨b, o, none⟩ : Addr).add j = ⟨b, o + j, none⟩ := by unfold Addr.add; split <;> simp_all
      rw [this, hc j (by omega)]
      exact hj
    refine wpList_append_own_at W hgd s x t ho 0 e i z size bytes ht hi hz hsize hby hzs hsz v n xs hs (ownR_owns hw.head) ad m cap ys hx hl3 hnews h1 h63 hbytes (Nat.zero_le _) ?_
    intro v' w' hown hgrow _ hat
    exact h v' w' (hw.growAny hgrow hat hown)
end

end Go.Heap

/- Arguments that came in: batches, rows of batches, logs, rows of logs. -/
namespace Go.Proofs.YtimdphlolmbhnaaGreat
open Go.ChangeShapes Go.WideShapes Go.ChangeAt Go.RowKit Go.Deep Go.Heap

theorem Tryz.cellsInt : Tryz.prog.cellsOf 3 = 1 := by kernel_rfl
theorem Tryz.cellsOp : Tryz.prog.cellsOf 36 = 3 := by kernel_rfl
theorem Tryz.cellsReq : Tryz.prog.cellsOf 38 = 6 := by kernel_rfl

/-- A batch and its slice. -/
structure Ba where
  v : Value
  rs : List Rq
/-- v is a slice of batches. -/
def Bats (w : World) (v : Value) (xs : List Ba) : Prop := Reads w v 1 xs.length (xs.map Ba.v) ∧ ∀ x ∈ xs, Bat w x.v x.rs
theorem Bats.upd {w w' : World} {v : Value} {xs : List Ba} (h : Bats w v xs) (hu : Upd [] w w') : Bats w' v xs := ⟨h.1.upd hu (by simp), fun x hx => (h.2 x hx).upd hu (by simp)⟩

section
variable {H : Type} {enc : TypeId × Value → H} {W : World} {base : Nat} {spare : Nat → Bool} {held : Bool}

theorem int_cell {n : Nat} {t : TypeId} {cs : List Value} {o : Option (DataW H × List MemPlace)} (ht : Tryz.prog.underlying t = some (.int .i64)) (ho : o.isSome = true) (h : DataW.trod enc Tryz.prog W base spare held n t cs = o) : ∃ a, cs = [.int .i64 a] := by
  obtain ⟨y, rfl⟩ := Option.isSome_iff_exists.1 ho
  obtain ⟨a, e, _, _⟩ := DataW.trod_int ht h
  exact ⟨a, e⟩

theorem six {cs : List Value} (h : cs.length = 6) : ∃ a b c d e f, cs = [a, b, c, d, e, f] := by
  match cs, h with
  | [a, b, c, d, e, f], _ => exact ⟨a, b, c, d, e, f, rfl⟩
theorem seven {cs : List Value} (h : cs.length = 7) : ∃ a b c d e f g, cs = [a, b, c, d, e, f, g] := by
  match cs, h with
  | [a, b, c, d, e, f, g], _ => exact ⟨a, b, c, d, e, f, g, rfl⟩
theorem get_some {α : Type} {xs : List α} {n j : Nat} (h : xs.length = n) (hj : j < n) : xs[j]?.isSome = true := by
  rw [List.getElem?_eq_getElem (by omega)]; rfl

theorem req_cells {n : Nat} {cs : List Value} {y : DataW H × List MemPlace} (hl : cs.length = 6) (h : DataW.trod enc Tryz.prog W base spare held n 38 cs = some y) : ∃ r : Rq, cs = rqCells r ∧ True := by
  obtain ⟨c0, c1, c2, c3, c4, c5, rfl⟩ := six hl
  obtain ⟨ys, n', _, _, _, hyl, hf⟩ := DataW.trod_struct Tryz.underlying38 h
  obtain ⟨a0, e0⟩ := int_cell Tryz.underlying3 (get_some hyl (by decide)) (hf 0 _ rfl)
  obtain ⟨a1, e1⟩ := int_cell Tryz.underlying3 (get_some hyl (by decide)) (hf 1 _ rfl)
  have h2 := hf 2 _ rfl
  obtain ⟨y2, hy2⟩ := Option.isSome_iff_exists.1 (get_some hyl (show 2 < _ by decide))
  rw [hy2] at h2
  obtain ⟨zs, n2, _, _, _, hzl, hz⟩ := DataW.trod_struct Tryz.underlying36 h2
  obtain ⟨a2, e2⟩ := int_cell Tryz.underlying3 (get_some hzl (by decide)) (hz 0 _ rfl)
  obtain ⟨a3, e3⟩ := int_cell Tryz.underlying3 (get_some hzl (by decide)) (hz 1 _ rfl)
  obtain ⟨a4, e4⟩ := int_cell Tryz.underlying3 (get_some hzl (by decide)) (hz 2 _ rfl)
  obtain ⟨a5, e5⟩ := int_cell Tryz.underlying3 (get_some hyl (by decide)) (hf 3 _ rfl)
  simp [Tryz.cellsInt, Tryz.cellsOp] at e0 e1 e2 e3 e4 e5
  subst e0 e1 e2 e3 e4 e5
  exact ⟨⟨a0, a1, a2, a3, a4, a5⟩, rfl, trivial⟩

theorem ent_cells {n : Nat} {cs : List Value} {y : DataW H × List MemPlace} (hl : cs.length = 7) (h : DataW.trod enc Tryz.prog W base spare held n 40 cs = some y) : ∃ e : En, cs = enCells e ∧ True := by
  obtain ⟨c0, c1, c2, c3, c4, c5, c6, rfl⟩ := seven hl
  obtain ⟨ys, n', _, _, _, hyl, hf⟩ := DataW.trod_struct Tryz.underlying40 h
  have h0 := hf 0 _ rfl
  obtain ⟨y0, hy0⟩ := Option.isSome_iff_exists.1 (get_some hyl (show 0 < _ by decide))
  rw [hy0] at h0
  obtain ⟨a6, e6⟩ := int_cell Tryz.underlying3 (get_some hyl (by decide)) (hf 1 _ rfl)
  simp [Tryz.cellsInt, Tryz.cellsReq] at h0 e6
  obtain ⟨r, hr, -⟩ := req_cells rfl h0
  simp only [rqCells, List.cons.injEq, and_true] at hr
  obtain ⟨rfl, rfl, rfl, rfl, rfl, rfl⟩ := hr
  subst e6
  exact ⟨⟨r, a6⟩, rfl, trivial⟩

theorem bat_of {n : Nat} {v : Value} {y : DataW H × List MemPlace} (h : DataW.trod enc Tryz.prog W base spare held n 33 [v] = some y) : ∃ rs : List Rq, Bat W v rs := by
  obtain ⟨rs, h1, _⟩ := slice_reads (sz := 6) (cells := rqCells) (Q := fun _ => True) Tryz.underlying33 (by kernel_rfl) (by omega) (fun _ => rfl) (fun n cs' y hl hy => req_cells hl hy) h
  exact ⟨rs, h1⟩
theorem ens_of {n : Nat} {v : Value} {y : DataW H × List MemPlace} (h : DataW.trod enc Tryz.prog W base spare held n 29 [v] = some y) : ∃ l : List En, Ens W v l := by
  obtain ⟨rs, h1, _⟩ := slice_reads (sz := 7) (cells := enCells) (Q := fun _ => True) Tryz.underlying29 (by kernel_rfl) (by omega) (fun _ => rfl) (fun n cs' y hl hy => ent_cells hl hy) h
  exact ⟨rs, h1⟩
theorem one {cs : List Value} (h : cs.length = 1) : ∃ a, cs = [a] := by
  match cs, h with
  | [a], _ => exact ⟨a, rfl⟩

set_option maxRecDepth 100000 in
theorem reqs_arg {base' : Nat} {v : Value} {d : DataW H} {p : List MemPlace} {r : Reach} (hv : Value.okWide Tryz.prog W r base' 33 v) (h : DataW.Trod enc Tryz.prog W base spare held 33 v d p) : ∃ xs : List Rq, Bat W v xs := by
  obtain ⟨ao, len, cap, rfl⟩ := okWide_slice Tryz.underlying33 hv
  obtain ⟨fuel, hf⟩ := h
  exact bat_of hf
set_option maxRecDepth 100000 in
theorem ens_arg {base' : Nat} {v : Value} {d : DataW H} {p : List MemPlace} {r : Reach} (hv : Value.okWide Tryz.prog W r base' 29 v) (h : DataW.Trod enc Tryz.prog W base spare held 29 v d p) : ∃ xs : List En, Ens W v xs := by
  obtain ⟨ao, len, cap, rfl⟩ := okWide_slice Tryz.underlying29 hv
  obtain ⟨fuel, hf⟩ := h
  exact ens_of hf
set_option maxRecDepth 100000 in
theorem bats_arg {base' : Nat} {v : Value} {d : DataW H} {p : List MemPlace} {r : Reach} (hv : Value.okWide Tryz.prog W r base' 22 v) (h : DataW.Trod enc Tryz.prog W base spare held 22 v d p) : ∃ xs : List Ba, Bats W v xs := by
  obtain ⟨ao, len, cap, rfl⟩ := okWide_slice Tryz.underlying22 hv
  obtain ⟨fuel, hf⟩ := h
  obtain ⟨xs, h1, h2⟩ := slice_reads (sz := 1) (cells := fun a : Ba => [a.v]) (Q := fun a => Bat W a.v a.rs) Tryz.underlying22 (by kernel_rfl) (by omega) (fun _ => rfl) (fun n cs' y hl hy => by
    obtain ⟨a, rfl⟩ := one hl
    obtain ⟨rs, hr⟩ := bat_of hy
    exact ⟨⟨a, rs⟩, rfl, hr⟩) hf
  exact ⟨xs, by rw [← List.flatMap_singleton' (xs.map Ba.v), List.flatMap_map]; exact h1, h2⟩
set_option maxRecDepth 100000 in
theorem logs_arg {base' : Nat} {v : Value} {d : DataW H} {p : List MemPlace} {r : Reach} (hv : Value.okWide Tryz.prog W r base' 49 v) (h : DataW.Trod enc Tryz.prog W base spare held 49 v d p) : ∃ xs : List Lo, Logs W v xs := by
  obtain ⟨ao, len, cap, rfl⟩ := okWide_slice Tryz.underlying49 hv
  obtain ⟨fuel, hf⟩ := h
  obtain ⟨xs, h1, h2⟩ := slice_reads (sz := 1) (cells := fun a : Lo => [a.v]) (Q := fun a => Ens W a.v a.es) Tryz.underlying49 (by kernel_rfl) (by omega) (fun _ => rfl) (fun n cs' y hl hy => by
    obtain ⟨a, rfl⟩ := one hl
    obtain ⟨rs, hr⟩ := ens_of hy
    exact ⟨⟨a, rs⟩, rfl, hr⟩) hf
  exact ⟨xs, by rw [← List.flatMap_singleton' (xs.map Lo.v), List.flatMap_map]; exact h1, h2⟩
end
end Go.Proofs.YtimdphlolmbhnaaGreat

/- The program's service: an operation. -/
namespace Go.Proofs.YtimdphlolmbhnaaGreat
open Go.RowKit Go.Heap

theorem small_any (v : Int) (w : World) : Calls Tryz.prog 82 #[.int .i64 v] w fun e w' => e = .returned (.bool (decide (-2147483648 < v ∧ v < 2147483648))) ∧ w' = w := by
  by_cases h1 : -2147483648 < v
  · by_cases h2 : v < 2147483648
    · rw [decide_eq_true (And.intro h1 h2)]
      go_enter Tryz.func82, Tryz.ntmps82
      go_wp2_with fail
      go_ret
      exact ⟨rfl, rfl⟩
    · have h3 : decide (v < 2147483648) = false := by simp; omega
      rw [decide_eq_false (fun h => h2 h.2)]
      clear h2
      go_enter Tryz.func82, Tryz.ntmps82
      go_wp2_with fail
      go_ret
      exact ⟨rfl, rfl⟩
  · have h3 : decide (-2147483648 < v) = false := by simp; omega
    rw [decide_eq_false (fun h => h1 h.1)]
    clear h1
    go_enter Tryz.func82, Tryz.ntmps82
    go_wp2_with fail
    go_ret
    exact ⟨rfl, rfl⟩

section
variable {B : Nat} {w0 w W W' : World} {ss rs : List Res} {A : List Nat}

abbrev opO (kind key val : Int) : Obj := .cells #[.int .i64 kind, .int .i64 key, .int .i64 val] 36 (0, 0)

theorem st_cell {s : Nat} {st : List (Bool × Int)} (h : (stR s st).At w A) (k : Nat) (hk : k < st.length) : s < w.heap.size ∧ w.cell? ⟨s, k * 2, none⟩ = some (.bool st[k].1) ∧ w.cell? ⟨s, k * 2 + 1, none⟩ = some (.int .i64 st[k].2) ∧ ∀ o, w.frozen? ⟨s, o, none⟩ = false := by
  obtain ⟨q1, q2, q3⟩ := segR_at h
  refine ⟨q1, ?_, ?_, q3⟩
  · rw [show k * 2 = k * 2 + 0 from rfl, q2 _ (by rw [st_len]; omega), flat_get (cells := scCells) (sz := 2) (fun _ => rfl) st k 0 st[k] (by simp) (by omega)]; rfl
  · rw [q2 _ (by rw [st_len]; omega), flat_get (cells := scCells) (sz := 2) (fun _ => rfl) st k 1 st[k] (by simp) (by omega)]; rfl

theorem own_putSt {s : Nat} {st : List (Bool × Int)} (h : Own B w0 W (stR s st :: rs)) (k : Nat) (hk : k < st.length) (b : Bool) (v : Int) : Own B w0 ((W.setCell ⟨s, k * 2, none⟩ (.bool b)).setCell ⟨s, k * 2 + 1, none⟩ (.int .i64 v)) (stR s (st.set k (b, v)) :: rs) := by
  have h1 := (h.put (k * 2 + 0) (.bool b)).put (k * 2 + 1) (.int .i64 v)
  rw [flat_set (cells := scCells) (sz := 2) (fun _ => rfl) st k 0 st[k] (b, st[k].2) _ (by simp) (by omega) rfl] at h1
  rw [flat_set (cells := scCells) (sz := 2) (fun _ => rfl) (st.set k (b, st[k].2)) k 1 (b, st[k].2) (b, v) _ (by simp [hk]) (by omega) rfl, List.set_set] at h1
  exact h1

theorem map_getD (st : List (Bool × Int)) (k : Nat) (hk : k < st.length) : (st.map Prod.snd).getD k 0 = st[k].2 := by simp [List.getD, hk]
theorem sumV_take (l : List Int) (k : Nat) (hk : k < l.length) : sumV (l.take (k + 1)) = sumV (l.take k) + l[k] := by
  have : l.take (k + 1) = l.take k ++ [l[k]] := by rw [List.take_add_one, List.getElem?_eq_getElem hk]; rfl
  simp only [sumV, this, List.foldl_append, List.foldl_cons, List.foldl_nil]
theorem sumV_in {vs : List Int} (h : VsOk vs) (k : Nat) : -200000000000 < sumV (vs.take k) ∧ sumV (vs.take k) < 200000000000 := by
  have h1 := sum_in (vs.take k) 0 (fun v hv => h.2 v (List.mem_of_mem_take hv))
  have h2 : (vs.take k).length ≤ 64 := by rw [List.length_take, h.1]; omega
  unfold sumV
  omega

section
variable {client time kind key val sl : Int} {vs : List Int} {k : Nat}
theorem ap_bad (h : key < 0 ∨ 64 ≤ key ∨ val ≤ -2147483648 ∨ 2147483648 ≤ val) : applyR vs ⟨client, time, kind, key, val, sl⟩ = (0, vs) := by unfold applyR; rw [if_pos h]
theorem ap_1 (hk : k < 64) (h1 : -2147483648 < val) (h2 : val < 2147483648) : applyR vs ⟨client, time, 1, k, val, sl⟩ = (vs.getD k 0, vs.set k val) := by unfold applyR; rw [if_neg (by simp only; omega), if_pos rfl]; simp
theorem ap_2 (hk : k < 64) (h1 : -2147483648 < val) (h2 : val < 2147483648) : applyR vs ⟨client, time, 2, k, val, sl⟩ = (vs.getD k 0, vs) := by unfold applyR; rw [if_neg (by simp only; omega), if_neg (by simp), if_pos rfl]; simp
theorem ap_3a (hk : k < 64) (h1 : -2147483648 < val) (h2 : val < 2147483648) (h3 : ¬ (-2147483648 < vs.getD k 0 + val ∧ vs.getD k 0 + val < 2147483648)) : applyR vs ⟨client, time, 3, k, val, sl⟩ = (vs.getD k 0, vs) := by
  unfold applyR; rw [if_neg (by simp only; omega), if_neg (by simp), if_neg (by simp), if_pos rfl, if_pos (by simp only [Int.toNat_natCast]; omega)]; simp
theorem ap_3b (hk : k < 64) (h1 : -2147483648 < val) (h2 : val < 2147483648) (h3 : -2147483648 < vs.getD k 0 + val ∧ vs.getD k 0 + val < 2147483648) : applyR vs ⟨client, time, 3, k, val, sl⟩ = (vs.getD k 0 + val, vs.set k (vs.getD k 0 + val)) := by
  unfold applyR; rw [if_neg (by simp only; omega), if_neg (by simp), if_neg (by simp), if_pos rfl, if_neg (by simp only [Int.toNat_natCast]; omega)]; simp
theorem ap_4 (hk : k < 64) (h1 : -2147483648 < val) (h2 : val < 2147483648) : applyR vs ⟨client, time, 4, k, val, sl⟩ = (vs.getD k 0, vs.set k 0) := by
  unfold applyR; rw [if_neg (by simp only; omega), if_neg (by simp), if_neg (by simp), if_neg (by simp), if_pos rfl]; simp
theorem ap_5 (hk : k < 64) (h1 : -2147483648 < val) (h2 : val < 2147483648) : applyR vs ⟨client, time, 5, k, val, sl⟩ = (sumV vs, vs) := by
  unfold applyR; rw [if_neg (by simp only; omega), if_neg (by simp), if_neg (by simp), if_neg (by simp), if_neg (by simp), if_pos rfl]
theorem ap_6 (hk : k < 64) (h1 : -2147483648 < val) (h2 : val < 2147483648) (n1 : kind ≠ 1) (n2 : kind ≠ 2) (n3 : kind ≠ 3) (n4 : kind ≠ 4) (n5 : kind ≠ 5) : applyR vs ⟨client, time, kind, k, val, sl⟩ = (0, vs) := by
  unfold applyR; rw [if_neg (by simp only; omega), if_neg n1, if_neg n2, if_neg n3, if_neg n4, if_neg n5]
end

/-- What an operation leaves. -/
def ApMk (B : Nat) (w0 : World) (rs : List Res) (s : Nat) (st : List (Bool × Int)) (r : Rq) (e : Ending) (w' : World) : Prop :=
  ∃ st', e = .returned (.int .i64 (applyR (st.map Prod.snd) r).1) ∧ st'.length = 64 ∧ st'.map Prod.snd = (applyR (st.map Prod.snd) r).2 ∧ Own B w0 w' (stR s st' :: rs)

set_option maxHeartbeats 1600000 in
set_option maxRecDepth 100000 in
theorem papply_bad {s : Nat} {st : List (Bool × Int)} (h : Own B w0 W (stR s st :: rs)) (hl : st.length = 64) {client time kind key val sl : Int} (hb : key < 0 ∨ 64 ≤ key ∨ val ≤ -2147483648 ∨ 2147483648 ≤ val) :
    Calls Tryz.prog 52 #[.pointer (some ⟨s, 0, none⟩), .agg #[.int .i64 kind, .int .i64 key, .int .i64 val]] W (ApMk B w0 rs s st ⟨client, time, kind, key, val, sl⟩) := by
  have HE : ∀ w', Own B w0 w' (stR s st :: rs) → Hid (ApMk B w0 rs s st ⟨client, time, kind, key, val, sl⟩ (.returned (.int .i64 0)) w') := fun w' h' => Lib.hid ⟨st, by rw [ap_bad hb], hl, by rw [ap_bad hb], h'⟩
  have HE := HE _ (h.alloc (opO kind key val))
  clear h hl
  by_cases k1 : key < 0
  · clear hb
    go_enter Tryz.func52, Tryz.ntmps52
    go_wp2_with fail
    go_ret
    exact HE.out
  · have k1' : decide (key < 0) = false := by simp; omega
    by_cases k2 : 64 ≤ key
    · clear hb k1
      go_enter Tryz.func52, Tryz.ntmps52
      go_wp2_with fail
      go_ret
      exact HE.out
    · have k2' : decide (64 ≤ key) = false := by simp; omega
      have k3 : Hid (decide (-2147483648 < val ∧ val < 2147483648) = false) := Lib.hid (by simp; omega)
      clear hb k1 k2
      go_enter Tryz.func52, Tryz.ntmps52
      go_wp2_with fail
      refine (small_any _ _).mono ?_
      rintro e w1 ⟨rfl, rfl⟩
      rw [k3.out]
      go_wp2_with fail
      go_ret
      exact HE.out

set_option maxHeartbeats 4000000 in
set_option maxRecDepth 100000 in
theorem papply {s : Nat} {st : List (Bool × Int)} (h : Own B w0 W (stR s st :: rs)) (hl : st.length = 64) (hv : VsOk (st.map Prod.snd)) (r : Rq) :
    Calls Tryz.prog 52 #[.pointer (some ⟨s, 0, none⟩), .agg #[.int .i64 r.kind, .int .i64 r.key, .int .i64 r.val]] W (ApMk B w0 rs s st r) := by
  obtain ⟨client, time, kind, key, val, sl⟩ := r
  by_cases hb : key < 0 ∨ 64 ≤ key ∨ val ≤ -2147483648 ∨ 2147483648 ≤ val
  · exact papply_bad h hl hb
  obtain ⟨k, rfl⟩ : ∃ k : Nat, key = k := ⟨key.toNat, by omega⟩
  have hk : k < 64 := by omega
  have v1 : -2147483648 < val := by omega
  have v2 : val < 2147483648 := by omega
  have hks : k < st.length := by omega
  have hx := map_getD st k hks
  have hw1 := hv.at k
  rw [hx] at hw1
  have k1 : decide ((k : Int) < 0) = false := by simp
  have k2 : decide (64 ≤ (k : Int)) = false := by simp; omega
  have k0 : (0 : Int) ≤ (k : Int) := by omega
  have k64 : (k : Int) < 64 := by omega
  have k3 : Hid (decide (-2147483648 < val ∧ val < 2147483648) = true) := Lib.hid (by simp; omega)
  have h1 := h.alloc (opO kind k val)
  obtain ⟨hs, x0, x1, fz⟩ := st_cell h1.head k hks
  have z0 := fz (k * 2)
  have z1 := fz (k * 2 + 1)
  have H1 := Lib.hid h1
  have HP := Lib.hid (fun (N : Nat) b v => own_putSt (h1.upd0 ((Upd.refl _ _).drewN N)) k hks b v)
  have HD := Lib.hid (fun N : Nat => h1.upd0 ((Upd.refl _ _).drewN N))
  have HL := Lib.hid hl
  have HV := Lib.hid hv
  clear fz hb h hv
  generalize hst : st[k].2 = was at *
  generalize st[k].1 = has at *
  have hadd : IntKind.i64.wrap (was + val) = was + val := IntWalk.i64_in _ (by omega)
  have HX := Lib.hid hx
  by_cases e1 : kind = 1
  · subst e1
    have HE := fun w' h' => (⟨st.set k (true, val), by rw [ap_1 hk v1 v2, hx], by simpa using hl, by rw [ap_1 hk v1 v2, List.map_set], h'⟩ : ApMk B w0 rs s st ⟨client, time, 1, k, val, sl⟩ (.returned (.int .i64 was)) w')
    have HE := Lib.hid (fun N => HE _ (HP.out N true val))
    clear hx hst hl hks h1 hk
    go_enter Tryz.func52, Tryz.ntmps52
    go_wp2_with fail
    refine (small_any _ _).mono ?_
    rintro e w1 ⟨rfl, rfl⟩
    rw [k3.out]
    go_wp2_with fail
    go_quiet (fail)
    go_wp2_with fail
    go_ret
    exact HE.out _
  by_cases e2 : kind = 2
  · subst e2
    have HE := fun w' h' => (⟨st, by rw [ap_2 hk v1 v2, hx], hl, by rw [ap_2 hk v1 v2], h'⟩ : ApMk B w0 rs s st ⟨client, time, 2, k, val, sl⟩ (.returned (.int .i64 was)) w')
    have HE := Lib.hid (fun N => HE _ (HD.out N))
    clear e1
    clear hx hst hl hks h1 hk
    go_enter Tryz.func52, Tryz.ntmps52
    go_wp2_with fail
    refine (small_any _ _).mono ?_
    rintro e w1 ⟨rfl, rfl⟩
    rw [k3.out]
    go_wp2_with fail
    go_quiet (fail)
    go_wp2_with fail
    go_ret
    exact HE.out _
  by_cases e3 : kind = 3
  · subst e3
    by_cases hs3 : -2147483648 < was + val ∧ was + val < 2147483648
    · have HE := fun w' h' => (⟨st.set k (true, was + val), by rw [ap_3b hk v1 v2 (by rw [hx]; exact hs3), hx], by simpa using hl, by rw [ap_3b hk v1 v2 (by rw [hx]; exact hs3), List.map_set, hx], h'⟩ : ApMk B w0 rs s st ⟨client, time, 3, k, val, sl⟩ (.returned (.int .i64 (was + val))) w')
      have HE := Lib.hid (fun N => HE _ (HP.out N true (was + val)))
      have K4 : Hid (decide (-2147483648 < was + val ∧ was + val < 2147483648) = true) := Lib.hid (by simp; omega)
      clear e1 e2 hs3
      clear hx hst hl hks h1 hk
      go_enter Tryz.func52, Tryz.ntmps52
      go_wp2_with fail
      refine (small_any _ _).mono ?_
      rintro e w1 ⟨rfl, rfl⟩
      rw [k3.out]
      go_wp2_with fail
      go_quiet (fail)
      go_wp2_with fail
      refine (small_any _ _).mono ?_
      rintro e w1 ⟨rfl, rfl⟩
      rw [K4.out]
      go_wp2_with fail
      go_ret
      exact HE.out _
    · have HE := fun w' h' => (⟨st, by rw [ap_3a hk v1 v2 (by rw [hx]; exact hs3), hx], hl, by rw [ap_3a hk v1 v2 (by rw [hx]; exact hs3)], h'⟩ : ApMk B w0 rs s st ⟨client, time, 3, k, val, sl⟩ (.returned (.int .i64 was)) w')
      have HE := Lib.hid (fun N => HE _ (HD.out N))
      have K4 : Hid (decide (-2147483648 < was + val ∧ was + val < 2147483648) = false) := Lib.hid (decide_eq_false hs3)
      clear e1 e2 hs3
      clear hx hst hl hks h1 hk
      go_enter Tryz.func52, Tryz.ntmps52
      go_wp2_with fail
      refine (small_any _ _).mono ?_
      rintro e w1 ⟨rfl, rfl⟩
      rw [k3.out]
      go_wp2_with fail
      go_quiet (fail)
      go_wp2_with fail
      refine (small_any _ _).mono ?_
      rintro e w1 ⟨rfl, rfl⟩
      rw [K4.out]
      go_wp2_with fail
      go_ret
      exact HE.out _
  by_cases e4 : kind = 4
  · subst e4
    have HE := fun w' h' => (⟨st.set k (false, 0), by rw [ap_4 hk v1 v2, hx], by simpa using hl, by rw [ap_4 hk v1 v2, List.map_set], h'⟩ : ApMk B w0 rs s st ⟨client, time, 4, k, val, sl⟩ (.returned (.int .i64 was)) w')
    have HE := Lib.hid (fun N => HE _ (HP.out N false 0))
    clear e1 e2 e3
    clear hx hst hl hks h1 hk
    go_enter Tryz.func52, Tryz.ntmps52
    go_wp2_with fail
    refine (small_any _ _).mono ?_
    rintro e w1 ⟨rfl, rfl⟩
    rw [k3.out]
    go_wp2_with fail
    go_quiet (fail)
    go_wp2_with fail
    go_ret
    exact HE.out _
  by_cases e5 : kind = 5
  · subst e5
    clear e1 e2 e3 e4
    have hn : (stCells st).length = 128 := by rw [st_len, hl]
    have HI : Hid ((Tryz.prog.info? 154).map (·.size) = some (stCells st).length) := Lib.hid (by rw [hn]; kernel_rfl)
    have HIX : Hid (∀ (k : Nat) (x : Bool × Int), st[k]? = some x → ∀ w : World, (Instr.index 154 (.agg (stCells st).toArray) (.int .i64 k)).run Tryz.prog w = .ok (.agg #[.bool x.1, .int .i64 x.2]) w) := Lib.hid (fun k x hk w => by
      have hk64 : k < 64 := by have := (List.getElem?_eq_some_iff.1 hk).1; omega
      rw [run_index_agg w 154 153 64 (stCells st).toArray .i64 (k : Int) 2 _ Tryz.underlying154 Tryz.underlying153 rfl Tryz.infoSc (by omega) (by omega)]
      rw [show ((k : Int).toNat) = k by omega, st_extract st k x hk])
    have HX2 : Hid (∀ N : Nat, ((W.alloc (opO 5 k val)).drewN N).rangeAt s 0 (stCells st)) := Lib.hid (fun N => range_seg (HD.out N).head)
    have HEND := Lib.hid (fun w' (h' : Own B w0 w' (stR s st :: rs)) => (⟨st, by rw [ap_5 hk v1 v2], hl, by rw [ap_5 hk v1 v2], h'⟩ : ApMk B w0 rs s st ⟨client, time, 5, k, val, sl⟩ (.returned (.int .i64 (sumV (st.map Prod.snd)))) w'))
    clear hn HP HX hadd
    generalize hcs : stCells st = cs at *
    clear hx hst hl hks h1 hk
    go_enter Tryz.func52, Tryz.ntmps52
    go_wp2_with fail
    refine (small_any _ _).mono ?_
    rintro e w1 ⟨rfl, rfl⟩
    rw [k3.out]
    go_wp2_with fail
    go_quiet (fail)
    go_wp2_with (refine wpList_load_mid rfl 154 (.tmp 77) rfl s 0 rfl cs _ (HX2.out _) Tryz.underlying154 rfl HI.out ?_)
    clear x0 x1 z0 z1
    go_loopw [7, 79] (fun a j wr => ∃ m : Nat, m ≤ 64 ∧ j = .int .i64 m ∧ a = .int .i64 (sumV ((st.map Prod.snd).take m)) ∧ Hid (Own B w0 wr (stR s st :: rs))) (fun _ j _ => 64 - (intOf j).toNat)
    case atStart => exact ⟨0, by omega, rfl, rfl, Lib.hid (HD.out _)⟩
    case round =>
      obtain ⟨m, hm, rfl, rfl, H2⟩ := hrel
      by_cases hlt : m < 64
      · have hmI : (m : Int) < 64 := by omega
        have hm0 : (0 : Int) ≤ (m : Int) := by omega
        have hml : m < st.length := by rw [HL.out]; exact hlt
        have hix := HIX.out m st[m] (List.getElem?_eq_getElem hml)
        have hv := sumV_in HV.out m
        have hw := HV.out.at m
        have hsum : sumV ((st.map Prod.snd).take (m + 1)) = sumV ((st.map Prod.snd).take m) + st[m].2 := by rw [sumV_take _ _ (by simpa using hml)]; simp
        have hw2 := map_getD st m hml
        rw [hw2] at hw
        have HS := Lib.hid hsum
        have hadd : IntKind.i64.wrap (sumV ((st.map Prod.snd).take m) + st[m].2) = sumV ((st.map Prod.snd).take m) + st[m].2 := IntWalk.i64_in _ (by omega)
        clear hv hw hsum hw2
        generalize sumV ((st.map Prod.snd).take m) = sm at *
        generalize st[m].2 = sv at *
        generalize st[m].1 = sb at *
        have H3 := Lib.hid (H2.out.alloc (.cells #[.bool sb, .int .i64 sv] 153))
        clear hml H2
        go_wp2_with fail
        go_roundw
        case rel => exact ⟨m + 1, by omega, by go_num, by rw [HS.out], H3⟩
        case measure => simp [intOf]; omega
      · have hm64 : m = 64 := by omega
        subst hm64
        have hall : (st.map Prod.snd).take 64 = st.map Prod.snd := by rw [List.take_of_length_le (by rw [List.length_map, HL.out]; omega)]
        rw [hall]
        go_wp2_with fail
        go_ret
        exact HEND.out _ H2.out
  have b1 : (kind == 1) = false := by simpa using e1
  have b2 : (kind == 2) = false := by simpa using e2
  have b3 : (kind == 3) = false := by simpa using e3
  have b4 : (kind == 4) = false := by simpa using e4
  have b5 : (kind == 5) = false := by simpa using e5
  have HE := fun w' h' => (⟨st, by rw [ap_6 hk v1 v2 e1 e2 e3 e4 e5], hl, by rw [ap_6 hk v1 v2 e1 e2 e3 e4 e5], h'⟩ : ApMk B w0 rs s st ⟨client, time, kind, k, val, sl⟩ (.returned (.int .i64 0)) w')
  have HE := Lib.hid (fun N => HE _ (HD.out N))
  clear e1 e2 e3 e4 e5
  clear hx hst hl hks h1 hk
  go_enter Tryz.func52, Tryz.ntmps52
  go_wp2_with fail
  refine (small_any _ _).mono ?_
  rintro e w1 ⟨rfl, rfl⟩
  rw [k3.out]
  go_wp2_with fail
  go_quiet (fail)
  go_wp2_with fail
  go_ret
  exact HE.out _

end
end Go.Proofs.YtimdphlolmbhnaaGreat

/- The program's replies: a client's last time, and another one. -/
namespace Go.Proofs.YtimdphlolmbhnaaGreat
open Go.RowKit Go.Heap

section
variable {B : Nat} {w0 w W W' : World} {ss rs : List Res} {c g cap : Nat} {l : List (Int × Int)} {A : List Nat}

theorem chas_any (hc : W.heap[c]? = some (chO g l.length cap)) (k : Nat) (hk : k < l.length) :
    Calls Tryz.prog 81 #[.pointer (some ⟨c, 0, none⟩), .int .i64 k] W fun e w' => e = .returned (.bool true) ∧ w' = W := by
  have x0 : W.cell? ⟨c, 0, none⟩ = some (.slice (some ⟨g, 0, none⟩) l.length cap) := by rw [block_cell hc]; rfl
  have hkI : (k : Int) < (l.length : Int) := by omega
  have hk0 : (0 : Int) ≤ (k : Int) := by omega
  clear hc
  go_enter Tryz.func81, Tryz.ntmps81
  go_wp2_with fail
  go_ret
  exact ⟨rfl, rfl⟩

theorem clast_any (hc : W.heap[c]? = some (chO g l.length cap)) (hr : (rpR g l).At W A) (hcap : l.length ≤ cap) (k : Nat) (hk : k < l.length) :
    Calls Tryz.prog 51 #[.pointer (some ⟨c, 0, none⟩), .int .i64 k] W fun e w' => e = .returned (.int .i64 l[k].1) ∧ w' = W := by
  have x0 : W.cell? ⟨c, 0, none⟩ = some (.slice (some ⟨g, 0, none⟩) l.length cap) := by rw [block_cell hc]; rfl
  obtain ⟨q1, q2, -⟩ := segR_at hr
  have r0 : W.cell? ⟨g, k * 2, none⟩ = some (.int .i64 l[k].1) := by
    rw [show k * 2 = k * 2 + 0 from rfl, q2 _ (by rw [rp_len]; omega), flat_get (cells := rpCells) (sz := 2) (fun _ => rfl) l k 0 l[k] (by simp) (by omega)]; rfl
  have hkI : (k : Int) < (l.length : Int) := by omega
  have hk0 : (0 : Int) ≤ (k : Int) := by omega
  have hcI : (l.length : Int) ≤ (cap : Int) := by omega
  have HH := Lib.hid (chas_any hc k hk)
  clear hc hr q2
  generalize l[k].1 = t at *
  go_enter Tryz.func51, Tryz.ntmps51
  go_wp2_with fail
  refine HH.out.mono ?_
  rintro e w1 ⟨rfl, rfl⟩
  go_wp2_with fail
  go_ret
  exact ⟨rfl, rfl⟩

theorem own_putRp (h : Own B w0 W (rpR g l :: rs)) (k : Nat) (hk : k < l.length) (t r : Int) : Own B w0 ((W.setCell ⟨g, k * 2, none⟩ (.int .i64 t)).setCell ⟨g, k * 2 + 1, none⟩ (.int .i64 r)) (rpR g (l.set k (t, r)) :: rs) := by
  have h1 := (h.put (k * 2 + 0) (.int .i64 t)).put (k * 2 + 1) (.int .i64 r)
  rw [flat_set (cells := rpCells) (sz := 2) (fun _ => rfl) l k 0 l[k] (t, l[k].2) _ (by simp) (by omega) rfl] at h1
  rw [flat_set (cells := rpCells) (sz := 2) (fun _ => rfl) (l.set k (t, l[k].2)) k 1 (t, l[k].2) (t, r) _ (by simp [hk]) (by omega) rfl, List.set_set] at h1
  exact h1

theorem cput_any (h : Own B w0 W (blk c (chO g l.length cap) :: rpR g l :: rs)) (hcap : l.length ≤ cap) (k : Nat) (hk : k < l.length) (t r : Int) (ht : l[k].1 < t) :
    Calls Tryz.prog 53 #[.pointer (some ⟨c, 0, none⟩), .int .i64 k, .int .i64 t, .int .i64 r] W fun e w' => e = .returned (.bool true) ∧ Own B w0 w' (blk c (chO g (l.set k (t, r)).length cap) :: rpR g (l.set k (t, r)) :: rs) := by
  have hc := h.blk_out
  have x0 : W.cell? ⟨c, 0, none⟩ = some (.slice (some ⟨g, 0, none⟩) l.length cap) := by rw [block_cell hc]; rfl
  obtain ⟨q1, q2, q3⟩ := segR_at h.drop.head
  have r0 : W.cell? ⟨g, k * 2, none⟩ = some (.int .i64 l[k].1) := by
    rw [show k * 2 = k * 2 + 0 from rfl, q2 _ (by rw [rp_len]; omega), flat_get (cells := rpCells) (sz := 2) (fun _ => rfl) l k 0 l[k] (by simp) (by omega)]; rfl
  have r1 : W.cell? ⟨g, k * 2 + 1, none⟩ = some (.int .i64 l[k].2) := by
    rw [q2 _ (by rw [rp_len]; omega), flat_get (cells := rpCells) (sz := 2) (fun _ => rfl) l k 1 l[k] (by simp) (by omega)]; rfl
  have z0 := q3 (k * 2)
  have z1 := q3 (k * 2 + 1)
  have hkI : (k : Int) < (l.length : Int) := by omega
  have hk0 : (0 : Int) ≤ (k : Int) := by omega
  have hcI : (l.length : Int) ≤ (cap : Int) := by omega
  have htI : decide (t ≤ l[k].1) = false := by simp; omega
  have HH := Lib.hid (chas_any hc k hk)
  have HO := Lib.hid (own_putRp h.swap k hk t r).swap
  have HN := Lib.hid (show (l.set k (t, r)).length = l.length by simp)
  clear hc h q2 q3 ht
  generalize l[k].1 = t0 at *
  generalize l[k].2 = r0' at *
  go_enter Tryz.func53, Tryz.ntmps53
  go_wp2_with fail
  refine HH.out.mono ?_
  rintro e w1 ⟨rfl, rfl⟩
  go_wp2_with fail
  go_ret
  rw [HN.out]
  exact ⟨rfl, HO.out⟩
end
end Go.Proofs.YtimdphlolmbhnaaGreat
