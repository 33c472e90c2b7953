/- slot.enough: the votes of the lowest nodes for a batch. -/
import Derived.Test.YtdeadekeffficaaVotes
namespace Go.Proofs.Ytdeadekeffficaa
open Go.RowKit Go.Heap

theorem Try.infoVote : (Try.prog.info? 44).map (fun i => (i.zero, i.size, i.bytes)) = some (some (.agg #[.int .i64 0, .int .i64 0]), 2, 16) := by kernel_rfl

theorem owns_form {w : World} {B E sz n : Nat} {v : Value} {xs : List Value} (h : w.ownsRow B E sz v n xs) : ∃ ao cap, v = .slice ao n cap := by
  rcases h.2 with ⟨rfl, rfl⟩ | ⟨g, cap, cur, rfl, _⟩
  · exact ⟨_, _, rfl⟩
  · exact ⟨_, _, rfl⟩

theorem vts_of_own {w : World} {B : Nat} {v : Value} {l : Vs} {n : Nat} (hn : l.length = n) (h : w.ownsRow B 44 2 v n (vsCells l)) : Vts w v l ∧ ∀ k ∈ blkOf v, B ≤ k := by
  subst hn
  rcases h.2 with ⟨rfl, hn⟩ | ⟨g, cap, cur, rfl, hb, _⟩
  · have : l = [] := List.eq_nil_of_length_eq_zero hn
    subst this
    exact ⟨Reads.nil _ _, by simp [blkOf]⟩
  · exact ⟨Reads.of_own h, by simp [blkOf]; exact hb⟩

theorem bat_form {w : World} {v : Value} {rs : List Rq} (h : Bat w v rs) : ∃ ao cap, v = .slice ao rs.length cap := let ⟨ao, cap, hv, _⟩ := h; ⟨ao, cap, hv⟩

set_option maxHeartbeats 1000000 in
set_option maxRecDepth 100000 in
theorem enough_any (s b cap : Nat) (v : Value) (f : Nat) (l : List Vt) (D : List Nat) (batch : List Rq) (w : World) (h1 : 1 ≤ f) (h2 : f ≤ 4) (hl : l.length ≤ 13) (hs : s < w.heap.size)
    (hcap : 1 ≤ l.length)
    (hf : w.cell? ⟨s, 0, none⟩ = some (.int .i64 f)) (hv : VotesAt w b l D) (hb : Bat w v batch) (hbl : batch.length ≤ 100000) (hbs : ∀ t ∈ l, t.batch.length ≤ 100000) :
    Calls Try.prog 58 #[.pointer (some ⟨s, 0, none⟩), .slice (some ⟨b, 0, none⟩) l.length cap, v] w fun e w' =>
      ∃ u, e = .returned (.tuple #[u, .bool (enoughS l batch (2 * f + 1)).isSome]) ∧ Below w.heap.size w w' ∧ Vts w' u ((enoughS l batch (2 * f + 1)).getD []) ∧ ∀ k ∈ blkOf u, w.heap.size ≤ k := by
  obtain ⟨i0, hi, hz0, hz1, hz2⟩ := info_parts Try.infoVote
  have HV := Lib.hid hv
  have HB := Lib.hid hb
  have HBS := Lib.hid hbs
  clear hv hb hbs
  go_enter Try.func58, Try.ntmps58
  go_wp2_with fail
  go_loopw [8, 13] (fun out i wr => ∃ (k : Nat) (ao : Option Addr) (cp : Nat), k ≤ l.length ∧ i = .int .i64 k ∧ out = .slice ao (picked batch l (2 * f + 1) k).length cp ∧ Below w.heap.size w wr ∧
      Hid (wr.ownsRow w.heap.size 44 2 (.slice ao (picked batch l (2 * f + 1) k).length cp) (picked batch l (2 * f + 1) k).length (vsCells (picked batch l (2 * f + 1) k)))) (fun _ i _ => l.length - (intOf i).toNat)
  case atStart =>
    refine ⟨0, none, 0, by omega, rfl, ?_, Below.refl _ _, ?_⟩
    · rw [picked_zero]; rfl
    · rw [picked_zero]; exact World.ownsRow_nil _ _ _ _
  case round =>
    obtain ⟨k, ao, cp, hk, rfl, rfl, hbel, hown⟩ := hrel
    have hz := hbel.size
    have hple := picked_le batch l (2 * f + 1) k
    have hkf := (hbel.cell (p := ⟨s, 0, none⟩) hs).trans hf
    by_cases hlt : k < l.length
    · have hsucc := Lib.hid (picked_succ batch l (2 * f + 1) k hlt)
      generalize picked batch l (2 * f + 1) k = A at *
      have hvr := HV.out.upd (M := []) (Upd.of_below hbel) (by simp) (by simp)
      obtain ⟨bv, c0, c1, c2, hbat, hbw, _, _⟩ := hvr.cells k l[k] (by simp)
      obtain ⟨bo, bcap, rfl⟩ := bat_form hbat
      have HBAT := Lib.hid hbat
      have HBR := Lib.hid (HB.out.upd (M := []) (Upd.of_below hbel) (by simp))
      have hlk := HBS.out l[k] (by simp)
      have hkI : (k : Int) < (l.length : Int) := by omega
      clear hvr hbat
      by_cases hhas : l[k].has = true
      · rw [hhas] at c0
        have HHAS := Lib.hid hhas
        clear hhas
        go_wp2_with fail
        refine (same_any _ v l[k].batch batch _ hlk hbl (HBAT.out.upd (M := []) ((Upd.refl _ _).alloc _) (by simp)) (HBR.out.upd (M := []) ((Upd.refl _ _).alloc _) (by simp))).mono ?_
        rintro e w2 ⟨rfl, hu2⟩
        have hbB : Below (wr.heap.size + 1) (wr.alloc (.cells #[.bool true, .int .i64 l[k].sl, .slice bo l[k].batch.length bcap] 109)) w2 := by have := hu2.below; simpa using this
        have x1 : w2.cell? ⟨wr.heap.size, 1, none⟩ = some (.int .i64 l[k].sl) := (hbB.cell (p := ⟨wr.heap.size, 1, none⟩) (Nat.lt_succ_self _)).trans (by rw [block_cell (heap_alloc_new wr _)]; rfl)
        have hsr : s < wr.heap.size := Nat.lt_of_lt_of_le hs hz
        have x2 : w2.cell? ⟨s, 0, none⟩ = some (.int .i64 f) := ((hbB.cell (p := ⟨s, 0, none⟩) (Nat.lt_succ_of_lt hsr)).trans (World.cell?_alloc_past _ _ _ hsr)).trans hkf
        have hw2 := hbB.size
        have hbelw : Below w.heap.size w w2 := (hbel.alloc hz _).trans (hbB.mono (by omega))
        clear c0 c1 c2 hkf
        by_cases hsm : l[k].batch = batch
        · have HSM := Lib.hid hsm
          rw [decide_eq_true hsm]
          clear hsm
          go_wp2_with fail
          refine (quorum_any f _ (by omega) (by omega)).mono ?_
          rintro e w' ⟨rfl, rfl⟩
          have hgood : goodB batch l[k] = true := by simp [goodB, HHAS.out, HSM.out]
          rw [hgood, Bool.true_and] at hsucc
          clear hgood
          by_cases hlen : A.length < 2 * f + 1
          · have hq : (A.length : Int) < 2 * (f : Int) + 1 := by omega
            have hle : A.length ≤ 13 := by omega
            have hzz := hbelw.size
            have ho2 := (owns_upd (M := []) hown.out (Upd.of_below ((Below.refl _ _).alloc (Nat.le_refl _) (.cells #[.bool true, .int .i64 l[k].sl, .slice bo l[k].batch.length bcap] 109))) (by simp))
            have ho3 := (owns_upd (M := []) ho2 hu2 (by simp)).alloc (.cells #[.int .i64 k, .int .i64 l[k].sl] 44)
            have HO := Lib.hid ho3
            clear ho2 ho3
            go_wp2_with (at_builtin; refine wpList_append_lies _ rfl (.tmp 36) (.tmp 41) 37 rfl w.heap.size 44 i0 (.agg #[.int .i64 0, .int .i64 0]) 2 16 Try.underlying37 hi hz0 hz1 hz2 rfl (by decide) _ A.length (vsCells A) rfl HO.out ⟨w2.heap.size, 0, none⟩ 1 1 [.int .i64 k, .int .i64 l[k].sl] rfl rfl ?c1 ?c2 (by decide) ?c3 ?c4 ?c5 (w2.heap.size + 1) (by simp) ?c6)
            case c1 => intro j u hj; match j, hj with | 0, hj => simp at hj; subst hj; simp [Addr.add] | 1, hj => simp at hj; subst hj; simp [Addr.add]
            case c2 => intro u hu; simp at hu; rcases hu with rfl | rfl <;> rfl
            case c3 => unfold maxLen; omega
            case c4 => omega
            case c5 => simp; omega
            case c6 =>
              intro g cap2 w3 hown3 hgrow hat hlt3
              have hsucc' : picked batch l (2 * f + 1) (k + 1) = A ++ [((k : Int), l[k].sl)] := by rw [hsucc.out, if_pos (decide_eq_true hlen)]
              have HSU := Lib.hid hsucc'
              clear hsucc'
              have H3 := Lib.hid hown3
              clear hown3
              have hbel3 : Below w.heap.size w w3 := (hbelw.alloc hbelw.size _).grown hgrow (by simp; omega) (by intro j hj; exact (hown.out.lt j hj).1)
              go_wp2_with fail
              go_roundw
              case rel =>
                refine ⟨k + 1, some ⟨g, 0, none⟩, cap2, by omega, by go_num, ?_, hbel3, ?_⟩
                · rw [HSU.out]; simp
                · rw [HSU.out, vsCells_app, List.length_append]; exact H3
              case measure => simp [intOf]; omega
          · have hq : ¬ (A.length : Int) < 2 * (f : Int) + 1 := by omega
            have hqb : decide ((A.length : Int) < 2 * (f : Int) + 1) = false := by simp; omega
            go_wp2_with fail
            go_roundw
            have hsucc' : picked batch l (2 * f + 1) (k + 1) = A := by rw [hsucc.out, if_neg (by simpa using hlen)]
            case rel =>
              refine ⟨k + 1, ao, cp, by omega, by go_num, by rw [hsucc'], hbelw, ?_⟩
              rw [hsucc']
              exact (owns_upd (M := []) (owns_upd (M := []) hown.out (Upd.of_below ((Below.refl _ _).alloc (Nat.le_refl _) (.cells #[.bool true, .int .i64 l[k].sl, .slice bo l[k].batch.length bcap] 109))) (by simp)) hu2 (by simp))
            case measure => simp [intOf]; omega
        · have HSM := Lib.hid hsm
          rw [decide_eq_false hsm]
          clear hsm
          go_wp2_with fail
          go_roundw
          have hgood : goodB batch l[k] = false := by simp [goodB, HSM.out]
          have hsucc' : picked batch l (2 * f + 1) (k + 1) = A := by rw [hsucc.out, hgood]; rfl
          case rel =>
            refine ⟨k + 1, ao, cp, by omega, by go_num, by rw [hsucc'], hbelw, ?_⟩
            rw [hsucc']
            exact (owns_upd (M := []) (owns_upd (M := []) hown.out (Upd.of_below ((Below.refl _ _).alloc (Nat.le_refl _) (.cells #[.bool true, .int .i64 l[k].sl, .slice bo l[k].batch.length bcap] 109))) (by simp)) hu2 (by simp))
          case measure => simp [intOf]; omega
      · have hhas' : l[k].has = false := by simpa using hhas
        rw [hhas'] at c0
        have HHAS := Lib.hid hhas'
        clear hhas hhas'
        go_wp2_with fail
        go_roundw
        have hgood : goodB batch l[k] = false := by simp [goodB, HHAS.out]
        have hsucc' : picked batch l (2 * f + 1) (k + 1) = A := by rw [hsucc.out, hgood]; rfl
        case rel =>
          refine ⟨k + 1, ao, cp, by omega, by go_num, by rw [hsucc'], hbel.alloc hz _, ?_⟩
          rw [hsucc']
          exact owns_upd (M := []) hown.out (Upd.of_below ((Below.refl _ _).alloc (Nat.le_refl _) _)) (by simp)
        case measure => simp [intOf]; omega
    · have hkl : k = l.length := by omega
      subst hkl
      have HN := Lib.hid (fun h => enough_none (l := l) (batch := batch) (q := 2 * f + 1) h)
      have HY := Lib.hid (fun h => enough_some (l := l) (batch := batch) (q := 2 * f + 1) h)
      generalize picked batch l (2 * f + 1) l.length = A at *
      go_wp2_with fail
      refine (quorum_any f _ (by omega) (by omega)).mono ?_
      rintro e w' ⟨rfl, rfl⟩
      by_cases hlen : A.length < 2 * f + 1
      · have hq : (A.length : Int) < 2 * (f : Int) + 1 := by omega
        go_wp2_with fail
        go_ret2
        refine ⟨.slice none 0 0, ?_, hbel, ?_, ?_⟩
        · rw [HN.out hlen]; rfl
        · rw [HN.out hlen]; exact Reads.nil _ _
        · simp [blkOf]
      · have hq : ¬ (A.length : Int) < 2 * (f : Int) + 1 := by omega
        have hqb : decide ((A.length : Int) < 2 * (f : Int) + 1) = false := by simp; omega
        go_wp2_with fail
        go_ret2
        obtain ⟨r1, r2⟩ := vts_of_own rfl hown.out
        refine ⟨.slice ao A.length cp, ?_, hbel, ?_, r2⟩
        · rw [HY.out hlen]; rfl
        · rw [HY.out hlen]; exact r1

end Go.Proofs.Ytdeadekeffficaa
