/- slot.Vote, slot.Voted. -/
import Derived.Test.YtdeadekeffficaaSlot
namespace Go.Proofs.Ytdeadekeffficaa
open Go.RowKit Go.Heap

set_option maxHeartbeats 400000 in
theorem vote_out {w : World} {s bp bc cp cq f : Nat} {st : Sl} {D : List Nat} (h : SlotAt w s bp bc cp cq f st D) (kind node sl : Int) (v : Value) (ao : Option Addr) (n cb : Nat)
    (hk : (if kind = 4 then .slice (some ⟨bp, 0, none⟩) (3 * f + 1) cp else if kind = 5 then .slice (some ⟨bc, 0, none⟩) (3 * f + 1) cq else .slice none 0 0 : Value) = .slice ao n cb)
    (ho : node < 0 ∨ (n : Int) ≤ node) :
    Calls Try.prog 22 #[.pointer (some ⟨s, 0, none⟩), .int .i64 kind, .int .i64 node, .int .i64 sl, v] w fun e w' => e = .returned (.bool false) ∧ w = w' := by
  have H := Lib.hid h
  have HK := Lib.hid hk
  clear hk h
  rcases ho with ho | ho
  · go_enter Try.func22, Try.ntmps22
    go_wp2_with fail
    refine (votes_any H.out kind).mono ?_
    rw [HK.out]
    rintro e w' ⟨rfl, rfl⟩
    go_wp2_with fail
    go_ret
    exact ⟨rfl, rfl⟩
  · have h0 : ¬ node < 0 := by omega
    go_enter Try.func22, Try.ntmps22
    go_wp2_with fail
    refine (votes_any H.out kind).mono ?_
    rw [HK.out]
    rintro e w' ⟨rfl, rfl⟩
    go_wp2_with fail
    go_ret
    exact ⟨rfl, rfl⟩

set_option maxHeartbeats 400000 in
theorem vote_has {w : World} {s bp bc cp cq f : Nat} {st : Sl} {D : List Nat} (h : SlotAt w s bp bc cp cq f st D) (kind : Int) (node : Nat) (sl : Int) (v : Value) (b cb : Nat) (l : List Vt) (hl : l.length = 3 * f + 1)
    (hk : (if kind = 4 then .slice (some ⟨bp, 0, none⟩) (3 * f + 1) cp else if kind = 5 then .slice (some ⟨bc, 0, none⟩) (3 * f + 1) cq else .slice none 0 0 : Value) = .slice (some ⟨b, 0, none⟩) (3 * f + 1) cb)
    (hv : VotesAt w b l D) (t : Vt) (ht : l[node]? = some t) (hhas : t.has = true) :
    Calls Try.prog 22 #[.pointer (some ⟨s, 0, none⟩), .int .i64 kind, .int .i64 node, .int .i64 sl, v] w fun e w' => e = .returned (.bool false) ∧ w = w' := by
  obtain ⟨bv, c0, c1, c2, _, hbw, _, fz⟩ := hv.cells node t ht
  rw [hhas] at c0
  have H := Lib.hid h
  have hf2 := h.f2
  have hnl : node < 3 * f + 1 := by rw [← hl]; exact (List.getElem?_eq_some_iff.1 ht).1
  have HK := Lib.hid hk
  clear hk ht hhas fz hl hv h
  have i1 : ¬ (node : Int) < 0 := by omega
  have i2 : (node : Int) < 3 * (f : Int) + 1 := by omega
  have i3 : ¬ ((3 * f + 1 : Nat) : Int) ≤ (node : Int) := by omega
  go_enter Try.func22, Try.ntmps22
  go_wp2_with fail
  refine (votes_any H.out kind).mono ?_
  rw [HK.out]
  rintro e w' ⟨rfl, rfl⟩
  go_wp2_with fail
  go_ret
  exact ⟨rfl, rfl⟩

/-- What a call of Vote does to a slot. -/
def VotePost (w : World) (s bp bc cp cq f : Nat) (st : Sl) (D : List Nat) (kind node sl : Int) (rs : List Rq) (e : Ending) (w' : World) : Prop :=
  e = .returned (.bool (canVote st kind node)) ∧ Upd [bp, bc] w w' ∧ ∃ D', (∀ k ∈ D', k ∈ D ∨ w.heap.size ≤ k) ∧ SlotAt w' s bp bc cp cq f (voteS st kind node sl rs) D'

theorem votePost_no {w : World} {s bp bc cp cq f : Nat} {st : Sl} {D : List Nat} (h : SlotAt w s bp bc cp cq f st D) {kind node sl : Int} {rs : List Rq} (hc : canVote st kind node = false) : VotePost w s bp bc cp cq f st D kind node sl rs (.returned (.bool false)) w :=
  ⟨by rw [hc], Upd.refl _ _, D, fun k hk => .inl hk, by unfold voteS; rw [hc]; exact h⟩

theorem wide_votes {w : World} {b : Nat} {vs : List Vt} {D E : List Nat} (h : VotesAt w b vs D) : VotesAt w b vs (E ++ D) := by
  obtain ⟨arr, a1, a2, a3⟩ := h
  refine ⟨arr, a1, a2, fun i t hi => ?_⟩
  obtain ⟨v, c1, c2, c3, c4, c5⟩ := a3 i t hi
  exact ⟨v, c1, c2, c3, c4, fun k hk => List.mem_append_right _ (c5 k hk)⟩

theorem votePost_yes {w w' : World} {s bp bc cp cq f : Nat} {st : Sl} {D : List Nat} (h : SlotAt w s bp bc cp cq f st D) {kind sl : Int} {node : Nat} {rs : List Rq} {b : Nat} (hc : canVote st kind node = true) (hn : rs.length ≤ 100000)
    (hb : kind = 4 ∧ b = bp ∨ kind = 5 ∧ b = bc) (hnode : node < 3 * f + 1) (hs : Stored w w' b node sl rs) : VotePost w s bp bc cp cq f st D kind node sl rs (.returned (.bool true)) w' := by
  obtain ⟨w1, ao, cap, hu, hbat, hnew, hw'⟩ := hs
  obtain ⟨_, _, l1, l2, l3, _⟩ := h.cells
  have h1 := h.upd hu (by simp) (by simp) (by simp) (by simp)
  have HU : Upd [b] w1 w' := by rw [hw']; exact (((Upd.refl _ _).setCell (.inl (by simp)) _).setCell (.inl (by simp)) _).setCell (.inl (by simp)) _
  have hsz := HU.size
  have hbl : ∀ x, x < w.heap.size → x ∉ blkOf (.slice ao rs.length cap) := fun x hx hin => by have := hnew x hin; omega
  have hbD : b ∉ D := by
    rcases hb with ⟨_, e⟩ | ⟨_, e⟩
    · rw [e]; exact h.Dp
    · rw [e]; exact h.Dc
  have hbw : b < w.heap.size := by
    rcases hb with ⟨_, e⟩ | ⟨_, e⟩
    · rw [e]; exact l2
    · rw [e]; exact l3
  have hDb : ∀ k ∈ D, k ∉ [b] := fun k hk e => by simp at e; subst e; exact hbD hk
  have hbb : ∀ k ∈ blkOf (.slice ao rs.length cap), k ∉ [b] := fun k hk e => by simp at e; subst e; exact hbl _ hbw hk
  obtain ⟨v0, o1, o2, o3⟩ := h1.own
  have hsb : s ≠ b := by
    rcases hb with ⟨_, e⟩ | ⟨_, e⟩
    · rw [e]; exact h.sp
    · rw [e]; exact h.sc
  have own' : ∃ v, w'.heap[s]? = some (.cells #[.int .i64 f, .bool st.has, v, .slice (some ⟨bp, 0, none⟩) (3 * f + 1) cp, .slice (some ⟨bc, 0, none⟩) (3 * f + 1) cq] 105 (0, 0)) ∧ Bat w' v st.batch ∧ ∀ k ∈ blkOf v, k ∈ blkOf (.slice ao rs.length cap) ++ D :=
    ⟨v0, by rw [HU.block s (block_lt o1) (by simpa using hsb)]; exact o1, o2.upd HU (fun k hk => hDb k (o3 k hk)), fun k hk => List.mem_append_right _ (o3 k hk)⟩
  have hD' : ∀ x, x < w.heap.size → x ∉ D → x ∉ blkOf (.slice ao rs.length cap) ++ D := by
    intro x hx hxD hin
    rcases List.mem_append.1 hin with h1 | h1
    · exact hbl x hx h1
    · exact hxD h1
  have hDw : ∀ k ∈ blkOf (.slice ao rs.length cap) ++ D, k < w'.heap.size := by
    intro k hk
    rcases List.mem_append.1 hk with h2 | h2
    · have := hnew k h2; omega
    · have := h1.Dw k h2; omega
  refine ⟨by rw [hc], (hu.mono (by simp)).trans (HU.mono (by intro k _ hk; simp at hk; subst hk; rcases hb with ⟨_, e⟩ | ⟨_, e⟩ <;> simp [e])), blkOf (.slice ao rs.length cap) ++ D, ?_, ?_⟩
  · intro k hk
    rcases List.mem_append.1 hk with hk | hk
    · exact .inr (hnew k hk).1
    · exact .inl hk
  · unfold voteS
    rw [hc, if_pos rfl, Int.toNat_natCast]
    rcases hb with ⟨rfl, rfl⟩ | ⟨rfl, rfl⟩
    · rw [if_pos rfl]
      exact {
        f1 := h.f1, f2 := h.f2, own := own', sp := h.sp, sc := h.sc, pc := h.pc
        ps := votes_set h1.ps hw' (by rw [h.pl]; exact hnode) hbat (hbl _ l2) h.Dp
        cs := wide_votes (h1.cs.upd HU (by simpa using Ne.symm h.pc) hDb)
        pl := by simpa using h.pl
        cl := h.cl
        Ds := hD' s l1 h.Ds, Dp := hD' _ l2 h.Dp, Dc := hD' _ l3 h.Dc, Dw := hDw
        small := ⟨h.small.1, fun t ht => by
          rcases List.mem_or_eq_of_mem_set ht with h2 | h2
          · exact h.small.2.1 t h2
          · rw [h2]; exact hn, h.small.2.2⟩ }
    · rw [if_neg (by omega)]
      exact {
        f1 := h.f1, f2 := h.f2, own := own', sp := h.sp, sc := h.sc, pc := h.pc
        ps := wide_votes (h1.ps.upd HU (by simpa using h.pc) hDb)
        cs := votes_set h1.cs hw' (by rw [h.cl]; exact hnode) hbat (hbl _ l3) h.Dc
        pl := h.pl
        cl := by simpa using h.cl
        Ds := hD' s l1 h.Ds, Dp := hD' _ l2 h.Dp, Dc := hD' _ l3 h.Dc, Dw := hDw
        small := ⟨h.small.1, h.small.2.1, fun t ht => by
          rcases List.mem_or_eq_of_mem_set ht with h2 | h2
          · exact h.small.2.2 t h2
          · rw [h2]; exact hn⟩ }

theorem slot_vote {w : World} {s bp bc cp cq f : Nat} {st : Sl} {D : List Nat} (h : SlotAt w s bp bc cp cq f st D) (kind node sl : Int) (v : Value) (rs : List Rq) (hb : Bat w v rs) (hn : rs.length ≤ 100000) :
    Calls Try.prog 22 #[.pointer (some ⟨s, 0, none⟩), .int .i64 kind, .int .i64 node, .int .i64 sl, v] w (VotePost w s bp bc cp cq f st D kind node sl rs) := by
  have nope : ∀ {e : Ending} {w' : World}, canVote st kind node = false → e = .returned (.bool false) ∧ w = w' → VotePost w s bp bc cp cq f st D kind node sl rs e w' := by
    rintro e w' hc ⟨rfl, rfl⟩
    exact votePost_no h hc
  by_cases hk : kind = 4 ∨ kind = 5
  · obtain ⟨b, cb, l, hl, hkv, hvv, hlist, hbb⟩ : ∃ (b cb : Nat) (l : List Vt), l.length = 3 * f + 1 ∧ (if kind = 4 then .slice (some ⟨bp, 0, none⟩) (3 * f + 1) cp else if kind = 5 then .slice (some ⟨bc, 0, none⟩) (3 * f + 1) cq else .slice none 0 0 : Value) = .slice (some ⟨b, 0, none⟩) (3 * f + 1) cb ∧
        VotesAt w b l D ∧ listOf st kind = l ∧ (kind = 4 ∧ b = bp ∨ kind = 5 ∧ b = bc) := by
      rcases hk with rfl | rfl
      · exact ⟨bp, cp, st.ps, h.pl, by rw [if_pos rfl], h.ps, by simp [listOf], .inl ⟨rfl, rfl⟩⟩
      · exact ⟨bc, cq, st.cs, h.cl, by rw [if_neg (by omega), if_pos rfl], h.cs, by simp [listOf], .inr ⟨rfl, rfl⟩⟩
    by_cases hin : 0 ≤ node ∧ node < 3 * (f : Int) + 1
    · obtain ⟨i, rfl⟩ := Int.eq_ofNat_of_zero_le hin.1
      have hil : i < l.length := by omega
      have hget : l[i]? = some l[i] := List.getElem?_eq_getElem hil
      by_cases hhas : l[i].has = true
      · refine (vote_has h kind i sl v b cb l hl hkv hvv _ hget hhas).mono fun e w' => nope ?_
        simp [canVote, openB, hlist, hget, hhas]
      · have hhas' : l[i].has = false := by simpa using hhas
        refine (vote_yes h kind i sl v rs b cb l hl hkv hvv _ hget hhas' hb hn).mono fun e w' ⟨he, hst⟩ => ?_
        subst he
        exact votePost_yes h (by simp [canVote, openB, hlist, hget, hhas']) hn hbb (by omega) hst
    · refine (vote_out h kind node sl v _ _ _ hkv (by omega)).mono fun e w' => nope ?_
      unfold canVote openB
      rw [hlist]
      by_cases h0 : 0 ≤ node
      · rw [List.getElem?_eq_none (by omega)]; simp
      · simp [h0]
  · have h4 : ¬ kind = 4 := fun e => hk (.inl e)
    have h5 : ¬ kind = 5 := fun e => hk (.inr e)
    refine (vote_out h kind node sl v none 0 0 (by rw [if_neg h4, if_neg h5]) (by omega)).mono fun e w' => nope ?_
    simp [canVote, openB, listOf, h4, h5]

end Go.Proofs.Ytdeadekeffficaa
