/- The document's slot as a resource; psephoslaw14.right over resources; a copy that is the caller's own. -/
import Derived.Test.YtdeadekeffficaaSr
import Derived.Test.YtdeadekeffficaaPlC
import Derived.Test.YtdeadekeffficaaPlR
import Derived.Test.YtdeadekeffficaaPlA
import Derived.Test.YtdeadekeffficaaRefAdd2
namespace Go.Proofs.Ytdeadekeffficaa
open Go.RowKit Go.Heap

def RVsIn (w : World) (v : Value) (l : List Rv) (D : List Nat) : Prop := ReadsIn w v 3 l.length (l.flatMap rvCells) D ∧ ∀ r ∈ l, BatIn w r.b r.rs D ∧ r.rs.length ≤ 100000

theorem RVsIn.rvs {w : World} {v : Value} {l : List Rv} {D : List Nat} (h : RVsIn w v l D) : RVs w v l := ⟨h.1.1, fun r hr => ⟨(h.2 r hr).1.1, (h.2 r hr).2⟩⟩
theorem RVsIn.mono {w : World} {v : Value} {l : List Rv} {D D' : List Nat} (h : RVsIn w v l D) (hs : ∀ k ∈ D, k ∈ D') : RVsIn w v l D' := ⟨h.1.mono hs, fun r hr => ⟨(h.2 r hr).1.mono hs, (h.2 r hr).2⟩⟩
theorem RVsIn.dep {w w' : World} {v : Value} {l : List Rv} {D : List Nat} (h : RVsIn w v l D) (hk : ∀ k ∈ D, w'.heap[k]? = w.heap[k]?) (hs : w.heap.size ≤ w'.heap.size) : RVsIn w' v l D := ⟨h.1.dep hk hs, fun r hr => ⟨(h.2 r hr).1.dep hk hs, (h.2 r hr).2⟩⟩

/-- What the document's slot leads to. -/
structure DocIn (w : World) (vb vp vc : Value) (st : Sl) (D : List Nat) : Prop where
  b : BatIn w vb (chosenS st) D
  p : ∃ pl, RVsIn w vp pl D ∧ pl.map rvOf = refs st.ps 0
  c : ∃ cl, RVsIn w vc cl D ∧ cl.map rvOf = refs st.cs 0

theorem DocIn.dep {w w' : World} {vb vp vc : Value} {st : Sl} {D : List Nat} (h : DocIn w vb vp vc st D) (hk : ∀ k ∈ D, w'.heap[k]? = w.heap[k]?) (hs : w.heap.size ≤ w'.heap.size) : DocIn w' vb vp vc st D := by
  obtain ⟨pl, p1, p2⟩ := h.p
  obtain ⟨cl, c1, c2⟩ := h.c
  exact ⟨ReadsIn.dep h.b hk hs, ⟨pl, p1.dep hk hs, p2⟩, cl, c1.dep hk hs, c2⟩

def docR (vb vp vc : Value) (st : Sl) : Res := imm (fun w D => DocIn w vb vp vc st D) (fun h hk hs => h.dep hk hs)
abbrev docO (b : Bool) (vb vp vc : Value) : Obj := .cells #[.bool b, vb, vp, vc] 59 (0, 0)

/-- A slice in a block of the caller's own that holds a batch; one whose contents do not matter. -/
def cpR (v : Value) (l : List Rq) : Res where
  M := blkOf v
  Q := fun w D => w.ownsRow 0 32 6 v l.length (rqsCells l) ∧ D = []
  dep := fun {w w' D} ⟨h, e⟩ hk _ => by
    refine ⟨⟨h.1, ?_⟩, e⟩
    rcases h.2 with hn | ⟨g, cap, cur, rfl, hb, hg, rest⟩
    · exact .inl hn
    · exact .inr ⟨g, cap, cur, rfl, hb, by rw [hk g (.inl (by simp [blkOf]))]; exact hg, rest⟩
  lt := fun {w D} ⟨h, e⟩ k hk => by
    subst e
    rcases h.2 with ⟨rfl, _⟩ | ⟨g, cap, cur, rfl, hb, hg, rest⟩
    · simp [blkOf] at hk
    · simp [blkOf] at hk; subst hk; exact block_lt hg
  sep := fun ⟨_, e⟩ k _ hn => by rw [e] at hn; simp at hn

theorem own_reads {w : World} {B E sz n : Nat} {v : Value} {xs : List Value} (h : w.ownsRow B E sz v n xs) : Reads w v sz n xs := by
  rcases h.2 with ⟨rfl, rfl⟩ | ⟨g, cap, cur, rfl, _⟩
  · have : xs = [] := List.eq_nil_of_length_eq_zero (by simpa using h.1)
    subst this
    exact Reads.nil _ _
  · exact Reads.of_own h

theorem cpR_bat {v : Value} {l : List Rq} {w : World} {A : List Nat} (h : (cpR v l).At w A) : Bat w v l := let ⟨_, h, _⟩ := h; own_reads h.1

/-- A row that is the caller's: n elements of sz cells; whatever they hold. -/
def RowOf (w : World) (E sz : Nat) (v : Value) (n : Nat) : Prop := v = .slice none 0 0 ∧ n = 0 ∨ ∃ g cap cur, v = .slice (some ⟨g, 0, none⟩) n cap ∧ w.heap[g]? = some (.cells cur E (0, 0)) ∧ n ≤ cap ∧ cap ≤ maxLen ∧ cur.size = cap * sz

def rowR (E sz : Nat) (v : Value) (n : Nat) : Res where
  M := blkOf v
  Q := fun w D => RowOf w E sz v n ∧ D = []
  dep := fun {w w' D} ⟨h, e⟩ hk _ => by
    refine ⟨?_, e⟩
    rcases h with hn | ⟨g, cap, cur, rfl, hg, rest⟩
    · exact .inl hn
    · exact .inr ⟨g, cap, cur, rfl, by rw [hk g (.inl (by simp [blkOf]))]; exact hg, rest⟩
  lt := fun {w D} ⟨h, e⟩ k hk => by
    subst e
    rcases h with ⟨rfl, _⟩ | ⟨g, cap, cur, rfl, hg, rest⟩
    · simp [blkOf] at hk
    · simp [blkOf] at hk; subst hk; exact block_lt hg
  sep := fun ⟨_, e⟩ k _ hn => by rw [e] at hn; simp at hn

theorem cpR_row {v : Value} {l : List Rq} {w : World} {A : List Nat} (h : (cpR v l).At w A) : (rowR 32 6 v l.length).At w A := by
  obtain ⟨D, ⟨h1, rfl⟩, h2, h3⟩ := h
  refine ⟨[], ⟨?_, rfl⟩, by simp, h3⟩
  rcases h1.2 with hn | ⟨g, cap, cur, rfl, hb, hg, q1, q2, q3, q4⟩
  · exact .inl hn
  · exact .inr ⟨g, cap, cur, rfl, hg, q1, q2, q3⟩

set_option maxHeartbeats 400000 in
theorem copyR_own (v : Value) (rs : List Rq) (w : World) (hn : rs.length ≤ 100000) (h : Bat w v rs) :
    Calls Try.prog 59 #[v] w fun e w' => ∃ v', e = .returned v' ∧ Upd [] w w' ∧ w'.ownsRow w.heap.size 32 6 v' rs.length (rqsCells rs) := by
  obtain ⟨i0, hi, hz0, hz1, hz2⟩ := info_parts Try.infoReq
  have h' := h
  obtain ⟨ao, cap, rfl, h1, h2, h3, h4, h5⟩ := h'
  clear h1 h2 h3
  cases ao with
  | none =>
    obtain ⟨hr, rfl⟩ := h4 rfl
    have : rs = [] := List.eq_nil_of_length_eq_zero hr
    subst this
    clear hr h4 h5
    go_enter Try.func59, Try.ntmps59
    go_wp2
    go_ret
    exact ⟨_, rfl, Upd.refl _ _, World.ownsRow_nil _ _ _ _⟩
  | some a =>
    clear h4
    by_cases h0 : rs.length = 0
    · have : rs = [] := List.eq_nil_of_length_eq_zero h0
      subst this
      clear h5 h0
      go_enter Try.func59, Try.ntmps59
      go_wp2
      go_ret
      exact ⟨_, rfl, Upd.refl _ _, World.ownsRow_nil _ _ _ _⟩
    · obtain ⟨b, o, hab, hb, hc⟩ := h5 (by omega)
      simp only [Option.some.injEq] at hab
      subst hab
      clear h5
      have hpos : 0 < rs.length := by omega
      clear h0
      have hnews : ∀ j u, (rqsCells rs)[j]? = some u → w.cell? ((⟨b, o, none⟩ : Addr).add j) = some u := by
        intro j u hj
        have hl := (List.getElem?_eq_some_iff.1 hj).1
        rw [rqsCells_length] at hl
        have : (⟨b, o, none⟩ : Addr).add j = ⟨b, o + j, none⟩ := by unfold Addr.add; split <;> simp_all
        rw [this, hc j hl]
        exact hj
      have HN := Lib.hid hnews
      clear hc hnews
      go_enter Try.func59, Try.ntmps59
      go_wp2_with (at_builtin; refine wpList_append_lies _ rfl (.const (.slice none 0 0)) (.tmp 3) 33 rfl w.heap.size 32 i0 (.agg #[.int .i64 0, .int .i64 0, .int .i64 0, .int .i64 0, .int .i64 0, .int .i64 0]) 6 48 Try.underlying33 hi hz0 hz1 hz2 rfl (by decide) _ 0 [] rfl (World.ownsRow_nil _ _ _ _) ⟨b, o, none⟩ rs.length cap (rqsCells rs) rfl (rqsCells_length rs) HN.out (rqsCells_one rs) hpos ?c3 ?c4 (Nat.le_refl _) w.heap.size rfl ?c6)
      case c3 => unfold maxLen; omega
      case c4 => omega
      case c6 =>
        intro g cap2 w2 hown hgrow hat hlt
        have hg : g = w.heap.size := by
          rcases hat with h | h
          · cases h
          · exact h
        subst hg
        try simp only [Nat.zero_add, List.nil_append] at hown
        have HO := Lib.hid hown
        clear hown hat
        go_wp2
        go_ret
        exact ⟨_, rfl, (Upd.refl _ _).grown hgrow (by intro k hk; cases hk), HO.out⟩


theorem RVsIn.add {w w' : World} {D Dr : List Nat} {v u : Value} {pl l : List Rv} {r : Rv} (h : RVsIn w v pl D) (hu : Upd [] w w') (hD : ∀ k ∈ D, k < w.heap.size) (hr : BatIn w' r.b r.rs Dr) (hl : RVs w' u l) (hx : ∀ x ∈ l, x ∈ pl ∨ x = r) : RVsIn w' u l (blkIf l.length u ++ Dr ++ D) := by
  have h' := h.dep (w' := w') (fun k hk => hu.block k (hD k hk) (by simp)) hu.size
  refine ⟨(Reads.lies hl.1).mono (by simp +contextual), fun x hxl => ⟨?_, (hl.2 x hxl).2⟩⟩
  rcases hx x hxl with hx | rfl
  · exact (h'.2 x hx).1.mono (by simp +contextual)
  · exact hr.mono (by simp +contextual)

theorem docR_ps {w : World} {A : List Nat} {vb vp vc : Value} {st : Sl} (h : (docR vb vp vc st).At w A) : ∃ pl, RVs w vp pl ∧ pl.map rvOf = refs st.ps 0 ∧
    ∀ (w' : World) (u : Value) (r : Rv) (l : List Rv) (st' : Sl), Upd [] w w' → (batR r.b r.rs).At w' A → RVs w' u l → (∀ x ∈ l, x ∈ pl ∨ x = r) → l.map rvOf = refs st'.ps 0 → st'.cs = st.cs → chosenS st' = chosenS st → (∀ k ∈ blkOf u, k ∉ A) → (docR vb u vc st').At w' A := by
  obtain ⟨D, ⟨h1, h2⟩, h3, h4⟩ := h
  obtain ⟨pl, p1, p2⟩ := h1.p
  obtain ⟨cl, c1, c2⟩ := h1.c
  refine ⟨pl, p1.rvs, p2, fun w' u r l st' hu hb hl hx hm hc hch hA => ?_⟩
  obtain ⟨Dr, ⟨b1, b2⟩, b3, b4⟩ := hb
  have hd := h1.dep (w' := w') (fun k hk => hu.block k (h2 k hk) (by simp)) hu.size
  obtain ⟨cl', c1', c2'⟩ := hd.c
  refine ⟨blkIf l.length u ++ Dr ++ D, ⟨⟨?_, ⟨l, p1.add hu h2 b1 hl hx, hm⟩, ⟨cl', c1'.mono (by simp +contextual), by rw [hc]; exact c2'⟩⟩, fun k hk => ?_⟩, fun k hk => ?_, b4⟩
  · rw [hch]; exact ReadsIn.mono hd.b (by simp +contextual)
  · simp only [List.mem_append, or_assoc] at hk
    rcases hk with hk | hk | hk
    · exact Reads.lies_lt hl.1 k hk
    · exact b2 k hk
    · exact Nat.lt_of_lt_of_le (h2 k hk) hu.size
  · simp only [List.mem_append, or_assoc] at hk
    rcases hk with hk | hk | hk
    · exact hA k (blkIf_sub hk)
    · exact b3 k hk
    · exact h3 k hk

theorem docR_cs {w : World} {A : List Nat} {vb vp vc : Value} {st : Sl} (h : (docR vb vp vc st).At w A) : ∃ cl, RVs w vc cl ∧ cl.map rvOf = refs st.cs 0 ∧
    ∀ (w' : World) (u : Value) (r : Rv) (l : List Rv) (st' : Sl), Upd [] w w' → (batR r.b r.rs).At w' A → RVs w' u l → (∀ x ∈ l, x ∈ cl ∨ x = r) → l.map rvOf = refs st'.cs 0 → st'.ps = st.ps → chosenS st' = chosenS st → (∀ k ∈ blkOf u, k ∉ A) → (docR vb vp u st').At w' A := by
  obtain ⟨D, ⟨h1, h2⟩, h3, h4⟩ := h
  obtain ⟨cl, c1, c2⟩ := h1.c
  refine ⟨cl, c1.rvs, c2, fun w' u r l st' hu hb hl hx hm hc hch hA => ?_⟩
  obtain ⟨Dr, ⟨b1, b2⟩, b3, b4⟩ := hb
  have hd := h1.dep (w' := w') (fun k hk => hu.block k (h2 k hk) (by simp)) hu.size
  obtain ⟨pl', p1', p2'⟩ := hd.p
  refine ⟨blkIf l.length u ++ Dr ++ D, ⟨⟨?_, ⟨pl', p1'.mono (by simp +contextual), by rw [hc]; exact p2'⟩, ⟨l, c1.add hu h2 b1 hl hx, hm⟩⟩, fun k hk => ?_⟩, fun k hk => ?_, b4⟩
  · rw [hch]; exact ReadsIn.mono hd.b (by simp +contextual)
  · simp only [List.mem_append, or_assoc] at hk
    rcases hk with hk | hk | hk
    · exact Reads.lies_lt hl.1 k hk
    · exact b2 k hk
    · exact Nat.lt_of_lt_of_le (h2 k hk) hu.size
  · simp only [List.mem_append, or_assoc] at hk
    rcases hk with hk | hk | hk
    · exact hA k (blkIf_sub hk)
    · exact b3 k hk
    · exact h3 k hk

theorem rv_len13 {ps : List Vt} {pl : List Rv} (h : pl.map rvOf = refs ps 0) : pl.length ≤ ps.length := by
  have := congrArg List.length h
  have h2 := refs_length ps 0
  simp only [List.length_map] at this
  omega

section
variable {B : Nat} {w0 W W' : World} {rs : List Res} {L : Loc} {st : Sl} {q : Nat} {vb vp vc : Value}

theorem own_right (h : Own B w0 W (slotR L st :: blk q (docO st.has vb vp vc) :: docR vb vp vc st :: rs)) (hf1 : 1 ≤ L.f) (hf2 : L.f ≤ 4) :
    Calls Try.prog 32 #[L.ptr, .pointer (some ⟨q, 0, none⟩), .int .i64 L.f] W fun e w' => e = .returned (.bool true) ∧ Upd [] W w' := by
  have hws : Ws 0 W W [(L, st)] [] [] := ⟨(Below.refl W.heap.size W).mono (Nat.zero_le _), Nat.zero_le _, fun p hp => by
    rcases List.mem_singleton.1 hp with rfl
    exact ⟨fun _ _ => Nat.zero_le _, (own_on h).avoid (fun k hk => by simp [outs, avoid] at hk; exact (Ms_cons _ _ _).2 (.inl hk))⟩, .cons (by simp) .nil, by simp, by simp⟩
  obtain ⟨D, ⟨hd, _⟩, _, _⟩ := h.drop.drop.head
  obtain ⟨pl, p1, p2⟩ := hd.p
  obtain ⟨cl, c1, c2⟩ := hd.c
  refine (right_any hws q L.f rfl hf1 hf2 ⟨vb, vp, vc, h.drop.blk_out, hd.b.bat, ⟨pl, p1.rvs, p2⟩, cl, c1.rvs, c2⟩ ?_).mono ?_
  · unfold chosenS; split
    · exact (own_small h).1
    · simp
  · rintro e w' ⟨rfl, _, hu⟩
    exact ⟨rfl, hu⟩

end
end Go.Proofs.Ytdeadekeffficaa
