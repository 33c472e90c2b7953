/- The walk of the law InstLeaves. -/
import Derived.Test.YtdeadekeffficaaLvP
import Derived.Test.YtdeadekeffficaaKeepD
import Derived.Test.YtdeadekeffficaaInR
import Derived.Test.YtdeadekeffficaaCe
namespace Go.Proofs.Ytdeadekeffficaa
open Go.RowKit Go.Heap

/-- The law's state: the instance, the certificates that were told, the batch. -/
def LvS (w wx : World) (i f gx : Nat) (u : Value) (ct : Ct) (view : Int) : Prop :=
  ∃ on s told, AtI w.heap.size w wx i (ls f view on (lk f s told)) [ownR 70 5 u 1 (ctCells ct), ctsR [ct], redR (sl1 gx) 6 1 (rqsCells [rq 0 1])]

theorem lvs_below {w wx : World} {i f gx : Nat} {u : Value} {ct : Ct} {view : Int} (h : LvS w wx i f gx u ct view) : Below w.heap.size w wx := let ⟨_, _, _, h⟩ := h; h.below

/-- A new slice of the one batch. -/
theorem ai_bs {B : Nat} {w0 W : World} {i : Nat} {st : In} {ss : List Res} {u : Value} {b : List Rq} {T : TypeId} (h : AtI B w0 W i st (redR u 6 b.length (rqsCells b) :: ss)) :
    AtI B w0 (W.alloc (.cells #[u] T (0, 0))) i st (bsR (.slice (some ⟨W.heap.size, 0, none⟩) 1 1) [b] :: redR u 6 b.length (rqsCells b) :: ss) := by
  obtain ⟨x, h1, h2, h3⟩ := h
  have h4 : Own B w0 (W.alloc (.cells #[u] T (0, 0))) (instR x :: redR u 6 b.length (rqsCells b) :: ss) := h3.alloc _
  obtain ⟨D, ⟨d1, d2⟩, d3, d4⟩ := (h4.all (redR u 6 b.length (rqsCells b)) (by simp)).1
  have hcell : ∀ j, j < [b].length * 1 → (W.alloc (.cells #[u] T (0, 0))).cell? ⟨W.heap.size, 0 + j, none⟩ = [u][j]? := by
    intro j hj
    have : j = 0 := by simp at hj; exact hj
    subst this
    rw [block_cell (heap_alloc_new W (.cells #[u] T (0, 0)))]; rfl
  have hr : ReadsIn (W.alloc (.cells #[u] T (0, 0))) (.slice (some ⟨W.heap.size, 0, none⟩) 1 1) 1 [b].length [u] (W.heap.size :: D) :=
    ⟨⟨_, _, rfl, by simp, by simp [maxLen], rfl, by simp, fun _ => ⟨_, _, rfl, by simp, hcell⟩⟩, fun _ k hk => by simp [blkOf] at hk; simp [hk]⟩
  have hb : ∀ k (hk : k < [b].length), ∃ u', [u][k]? = some u' ∧ BatIn (W.alloc (.cells #[u] T (0, 0))) u' [b][k] (W.heap.size :: D) := by
    intro k hk
    have : k = 0 := by simp at hk; exact hk
    subst this
    exact ⟨u, rfl, d1.mono (by simp +contextual)⟩
  have hM : ∀ k ∈ Ms (instR x :: redR u 6 b.length (rqsCells b) :: ss), k < W.heap.size := fun k hk => h3.lt k hk
  refine ⟨x, h1, h2, (h4.new (r := bsR (.slice (some ⟨W.heap.size, 0, none⟩) 1 1) [b]) (Upd.refl [] _) ⟨W.heap.size :: D, ⟨⟨[u], hr, hb⟩, fun k hk => ?_⟩, fun k hk => ?_, fun k hk => h4.lt k hk⟩ (by simp [bsR, imm])).swap⟩
  · rcases List.mem_cons.1 hk with rfl | hk
    · simp
    · exact d2 k hk
  · rcases List.mem_cons.1 hk with rfl | hk
    · intro hkm
      exact absurd (hM _ hkm) (by omega)
    · exact d3 k hk

set_option maxHeartbeats 4000000 in
set_option maxRecDepth 100000 in
theorem leaves15_any (a0 : Int) (v : Value) (zs : List Int) {w : World} (hv : Ints w v zs) : Calls Try.prog 15 #[.int .i64 a0, v] w fun e w' => e = .returned (.bool true) ∧ Below w.heap.size w w' := by
  obtain ⟨ao, cap, rfl, hl1, hl2, -⟩ := id hv
  have hmx : zs.length ≤ 9223372036854775807 := by unfold maxLen at hl2; omega
  clear hl1 hl2
  have HZ := Lib.hid hv
  clear hv
  obtain ⟨f, hf1, hf2, hfv⟩ := f_of a0
  have HV := Lib.hid hfv
  clear hfv
  obtain ⟨p1, p2⟩ := emod_in a0 4 (by omega)
  go_enter Try.func15, Try.ntmps15
  go_wp2_with fail
  refine (Within_any a0 4 _ (by omega) (by omega)).mono ?_
  rintro e w' ⟨rfl, rfl⟩
  go_wp2_with fail
  rw [HV.out]
  clear p1 p2
  refine (ai_new f 0 4 hf1 hf2 (by omega) (by omega) (by omega) (by omega) (Own.start (Below.refl w.heap.size w) (Nat.le_refl _))).mono ?_
  rintro e w1 ⟨i, rfl, h1⟩
  rw [ls_new] at h1
  have H1 := Lib.hid (ai_red h1 (bat_one (heap_alloc_new w1 (rqObj 0 1))) ((Upd.refl _ _).alloc _) (fun k hk => by have := blkIf_sub hk; simp [blkOf] at this; omega))
  clear h1
  go_wp2_with fail
  generalize w1.alloc (rqObj 0 1) = w2 at *
  generalize w1.heap.size = gx at *
  refine (ai_pre H1.out 1 (sl1 gx) [rq 0 1] (redR_out H1.out.ss_own.head) (by simp)).mono ?_
  rintro e w3 ⟨rfl, h3⟩
  rw [ls_pre] at h3
  have H3 := Lib.hid h3
  clear h3 H1
  go_wp2_with fail
  go_loopw [8] (fun n wr => ∃ q : Nat, q ≤ 2 * f + 1 ∧ n = .int .i64 q ∧ Hid (AtI w.heap.size w wr i (ls f 0 true (nL f q q)) [redR (sl1 gx) 6 1 (rqsCells [rq 0 1])])) (fun n _ => 2 * f + 1 - (intOf n).toNat)
  case atStart => exact ⟨0, by omega, rfl, H3⟩
  case round =>
    clear H3
    obtain ⟨q, hq, rfl, H3⟩ := hrel
    by_cases hlq : q < 2 * f + 1
    · have hqI : (q : Int) < 2 * (f : Int) + 1 := by omega
      have V4 := Lib.hid (ls_vote4 f q (by omega))
      have V5 := Lib.hid (ls_vote5 f q (by omega))
      go_wp2_with fail
      refine (rquorum_any f _ (by omega) (by omega)).mono ?_
      rintro e w' ⟨rfl, rfl⟩
      go_wp2_with fail
      refine (ai_vote H3.out 4 1 q 1 (sl1 gx) [rq 0 1] (redR_out H3.out.ss_own.head) (by simp)).mono ?_
      rintro e w4 ⟨rfl, h4⟩
      rw [V4.out] at h4
      have H4 := Lib.hid h4
      clear h4 H3
      go_wp2_with fail
      refine (ai_vote H4.out 5 1 q 1 (sl1 gx) [rq 0 1] (redR_out H4.out.ss_own.head) (by simp)).mono ?_
      rintro e w5 ⟨rfl, h5⟩
      rw [V5.out] at h5
      have H5 := Lib.hid h5
      clear h5 H4
      go_wp2_with fail
      go_roundw
      case rel => exact ⟨q + 1, by omega, by go_num, H5⟩
      case measure => simp [intOf]; omega
    · have hq' : q = 2 * f + 1 := by omega
      subst hq'
      have hqb : decide (((2 * f + 1 : Nat) : Int) < 2 * (f : Int) + 1) = false := by simp
      clear hq hlq
      have PR := Lib.hid (ls_prep f)
      have CO := Lib.hid (ls_comm f)
      go_wp2_with fail
      refine (rquorum_any f _ (by omega) (by omega)).mono ?_
      rintro e w' ⟨rfl, rfl⟩
      go_wp2_with fail
      refine (ai_prepared H3.out 1).mono ?_
      rintro e w4 ⟨c, rfl, -, h4⟩
      rw [PR.out.2] at h4
      have H4 := Lib.hid h4
      clear h4 H3
      go_wp2_with fail
      refine (ai_commits H4.out 1).mono ?_
      rintro e w5 ⟨c', rfl, -, h5⟩
      rw [CO.out.2] at h5
      have H5 := Lib.hid h5
      clear h5 H4 PR CO
      go_wp2_with fail
      refine (ai_certs H5.out).mono ?_
      rintro e w6 ⟨u, cts, rfl, hc, h6⟩
      rw [ls_certs] at hc
      obtain ⟨ct, rfl, hct⟩ : ∃ ct, cts = [ct] ∧ ct.cp = pCp f 0 1 := by
        cases cts with
        | nil => cases hc
        | cons c l =>
          cases l with
          | nil => exact ⟨c, rfl, by simpa using hc⟩
          | cons _ _ => simp at hc
      have hr : Reads w6 u 5 1 (ctCells ct) := owns_reads (ownR_owns h6.ss_own.head)
      obtain ⟨ao3, cap3, rfl, -⟩ := hr
      have H6 : Hid (LvS w w6 i f gx (.slice ao3 1 cap3) ct 0) := Lib.hid ⟨_, _, _, h6⟩
      clear h6 hc H5
      have HCT := Lib.hid hct
      clear hct
      go_wp2_with fail
      go_loopw [10, 11] (fun vw n wr => ∃ (k : Nat) (view : Int), k ≤ zs.length ∧ k ≤ 30 ∧ 0 ≤ view ∧ view ≤ 12 ∧ vw = .int .i64 view ∧ n = .int .i64 k ∧ Hid (LvS w wr i f gx (.slice ao3 1 cap3) ct view)) (fun _ n _ => 30 - (intOf n).toNat)
      case atStart => exact ⟨0, 0, by omega, by omega, by omega, by omega, rfl, rfl, H6⟩
      case round =>
        clear H6
        obtain ⟨k, view, hkl, hk30, hv1, hv2, rfl, rfl, H6⟩ := hrel
        have HBL := Lib.hid (lvs_below H6.out)
        by_cases hlt : k < zs.length ∧ k < 30
        · obtain ⟨hla, hlb⟩ := hlt
          have hkI : (k : Int) < (zs.length : Int) := by omega
          have hk2I : (k : Int) < 30 := by omega
          obtain ⟨-, b, o, rfl, hbl, c0⟩ := (HZ.out.upd (Upd.of_below (M := []) HBL.out) (by simp)).at k hla
          obtain ⟨z1, z2⟩ := emod_in zs[k] 15 (by omega)
          generalize zs[k] = z at *
          obtain ⟨on, s, told, h6⟩ := H6.out
          by_cases hmay : view < z % 15 - 1 ∧ z % 15 - 1 ≤ 12
          · obtain ⟨m1, m2⟩ := hmay
            have HLV := Lib.hid (ls_leave f view (z % 15 - 1) on s told m1 m2)
            have H7 := Lib.hid h6
            have N0 := Lib.hid (ls_next0 f (z % 15 - 1) false false)
            have N1 := Lib.hid (ls_next1 f (z % 15 - 1) true false)
            clear h6 H6
            go_wp2_with fail
            refine (Within_any z 15 _ (by omega) (by omega)).mono ?_
            rintro e w' ⟨rfl, rfl⟩
            go_wp2_with fail
            refine (ai_leave H7.out (z % 15 - 1)).mono ?_
            rintro e w7 ⟨rfl, h8⟩
            rw [HLV.out.2] at h8
            rw [HLV.out.1]
            have H8 := Lib.hid h8
            clear h8 H7
            go_wp2_with fail
            refine (ai_installed H8.out).mono ?_
            rintro e w' ⟨rfl, rfl⟩
            rw [show (ls f (z % 15 - 1) false (lk f (emptySl f) false)).on = false from rfl]
            go_wp2_with fail
            refine (ai_next H8.out).mono ?_
            rintro e w9 ⟨rfl, hu9⟩
            rw [N0.out]
            have H9 := Lib.hid (H8.out.upd0 hu9)
            clear hu9 H8
            go_wp2_with fail
            refine (ai_vote H9.out 4 1 0 1 (sl1 gx) [rq 0 1] (redR_out H9.out.ss_own.drop.drop.head) (by simp)).mono ?_
            rintro e w10 ⟨rfl, h10⟩
            rw [ls_voteI] at h10
            rw [ls_vote]
            have H10 := Lib.hid h10
            clear h10 H9
            go_wp2_with fail
            refine (ai_pre H10.out 2 (sl1 gx) [rq 0 1] (redR_out H10.out.ss_own.drop.drop.head) (by simp)).mono ?_
            rintro e w11 ⟨rfl, h11⟩
            rw [ls_pre2I] at h11
            rw [ls_pre2]
            have H11 := Lib.hid h11
            clear h11 H10
            by_cases hp : ¬ (k : Int) % 2 = 0
            · have hpb : decide ((k : Int) % 2 = 0) = false := decide_eq_false hp
              go_wp2_with fail
              go_roundw
              case rel => exact ⟨k + 1, (z % 15 - 1), by omega, by omega, by omega, by omega, rfl, by go_num, Lib.hid ⟨_, _, _, H11.out⟩⟩
              case measure => simp [intOf]; omega
            · have hpp : (k : Int) % 2 = 0 := by omega
              have hpb : decide ((k : Int) % 2 = 0) = true := decide_eq_true hpp
              clear hp
              have H12 := Lib.hid (ai_bs (T := 33) (b := [rq 0 1]) (ai_perm H11.out (((List.Perm.swap _ _ _).cons _).trans (List.Perm.swap _ _ _))))
              clear H11
              go_wp2_with fail
              generalize w11.alloc (.cells #[sl1 gx] 33 (0, 0)) = w12 at *
              generalize w11.heap.size = g12 at *
              refine (ai_install H12.out (by simp) rfl (by simp)).mono ?_
              rintro e w13 ⟨rfl, h13⟩
              have H13 := Lib.hid (show AtI w.heap.size w w13 i (ls f (z % 15 - 1) true (lk f (iSl f) false)) _ from ai_drop h13)
              clear h13 H12
              go_wp2_with fail
              refine (ai_next H13.out).mono ?_
              rintro e w14 ⟨rfl, hu14⟩
              rw [N1.out]
              have H14 := Lib.hid (H13.out.upd0 hu14)
              clear hu14 H13
              go_wp2_with fail
              refine (ai_pre H14.out 1 (sl1 gx) [rq 0 1] (redR_out H14.out.ss_own.head) (by simp)).mono ?_
              rintro e w15 ⟨rfl, h15⟩
              rw [ls_pre1I] at h15
              rw [ls_pre1]
              have H15 := Lib.hid (ai_perm h15 ((List.Perm.swap _ _ _).trans ((List.Perm.swap _ _ _).cons _)))
              clear h15 H14
              go_wp2_with fail
              go_roundw
              case rel => exact ⟨k + 1, (z % 15 - 1), by omega, by omega, by omega, by omega, rfl, by go_num, Lib.hid ⟨_, _, _, H15.out⟩⟩
              case measure => simp [intOf]; omega
          · have HS := Lib.hid (ls_stay f view (z % 15 - 1) on s told hmay)
            have H7 := Lib.hid h6
            clear h6 H6
            by_cases hm1 : view < z % 15 - 1
            · have hm2 : ¬ z % 15 - 1 ≤ 12 := fun e => hmay ⟨hm1, e⟩
              have hb2 : decide (z % 15 - 1 ≤ 12) = false := by simp; omega
              go_wp2_with fail
              refine (Within_any z 15 _ (by omega) (by omega)).mono ?_
              rintro e w' ⟨rfl, rfl⟩
              go_wp2_with fail
              refine (ai_leave H7.out (z % 15 - 1)).mono ?_
              rintro e w7 ⟨rfl, h8⟩
              rw [HS.out.2] at h8
              rw [HS.out.1]
              have H8 : Hid (LvS w w7 i f gx (.slice ao3 1 cap3) ct view) := Lib.hid ⟨_, _, _, h8⟩
              clear h8
              go_wp2_with fail
              go_roundw
              case rel => exact ⟨k + 1, view, by omega, by omega, by omega, by omega, rfl, by go_num, H8⟩
              case measure => simp [intOf]; omega
            · have hb1 : decide (view < z % 15 - 1) = false := by simp; omega
              go_wp2_with fail
              refine (Within_any z 15 _ (by omega) (by omega)).mono ?_
              rintro e w' ⟨rfl, rfl⟩
              go_wp2_with fail
              refine (ai_leave H7.out (z % 15 - 1)).mono ?_
              rintro e w7 ⟨rfl, h8⟩
              rw [HS.out.2] at h8
              rw [HS.out.1]
              have H8 : Hid (LvS w w7 i f gx (.slice ao3 1 cap3) ct view) := Lib.hid ⟨_, _, _, h8⟩
              clear h8
              go_wp2_with fail
              go_roundw
              case rel => exact ⟨k + 1, view, by omega, by omega, by omega, by omega, rfl, by go_num, H8⟩
              case measure => simp [intOf]; omega
        · by_cases hla : k < zs.length
          · have hkI : (k : Int) < (zs.length : Int) := by omega
            have hkb : decide ((k : Int) < 30) = false := by simp; omega
            obtain ⟨on, s, told, h6⟩ := H6.out
            have H7 := Lib.hid h6
            clear h6 H6
            go_wp2_with fail
            refine (ai_view H7.out).mono ?_
            rintro e w' ⟨rfl, rfl⟩
            rw [show (ls f view on (lk f s told)).view = view from rfl]
            go_wp2_with fail
            refine (ai_done H7.out).mono ?_
            rintro e w' ⟨rfl, rfl⟩
            rw [ls_done]
            go_wp2_with fail
            refine (ai_certs H7.out).mono ?_
            rintro e w9 ⟨u2, cts, rfl, hc, h9⟩
            rw [ls_certs] at hc
            have s9 := h9.ss_own
            have k1 : CtsAt w9 u2 cts := ⟨owns_reads (ownR_owns s9.head), fun c hc => ctsR_out s9.drop.head hc⟩
            have k2 : CtsAt w9 (.slice ao3 1 cap3) [ct] := ⟨owns_reads (ownR_owns s9.drop.drop.head), fun c hc => ctsR_out s9.drop.drop.drop.head hc⟩
            have he : cts.map Ct.cp = [ct].map Ct.cp := by rw [hc, List.map_singleton, HCT.out]
            have hl : cts.length ≤ 100000 := by have := congrArg List.length he; simp at this; omega
            have HC := Lib.hid (keepCerts_any u2 _ cts [ct] w9 k1 k2 he hl)
            obtain ⟨xo, xc, rfl, -⟩ := k1.1
            have H9 := Lib.hid h9.below
            clear h9 s9 k1 k2 he hl hc H7
            go_wp2_with fail
            refine HC.out.mono ?_
            rintro e w10 ⟨rfl, hu10⟩
            have H10 := Lib.hid (H9.out.trans (hu10.below.mono H9.out.size))
            clear hu10
            go_wp2_with fail
            refine (wakes15_any _).mono ?_
            rintro e w11 ⟨rfl, hb⟩
            have H11 := Lib.hid (H10.out.trans (hb.mono H10.out.size))
            clear hb
            go_wp2_with fail
            go_ret
            exact ⟨rfl, H11.out⟩
          · have hkb : decide ((k : Int) < (zs.length : Int)) = false := by simp; omega
            obtain ⟨on, s, told, h6⟩ := H6.out
            have H7 := Lib.hid h6
            clear h6 H6
            go_wp2_with fail
            refine (ai_view H7.out).mono ?_
            rintro e w' ⟨rfl, rfl⟩
            rw [show (ls f view on (lk f s told)).view = view from rfl]
            go_wp2_with fail
            refine (ai_done H7.out).mono ?_
            rintro e w' ⟨rfl, rfl⟩
            rw [ls_done]
            go_wp2_with fail
            refine (ai_certs H7.out).mono ?_
            rintro e w9 ⟨u2, cts, rfl, hc, h9⟩
            rw [ls_certs] at hc
            have s9 := h9.ss_own
            have k1 : CtsAt w9 u2 cts := ⟨owns_reads (ownR_owns s9.head), fun c hc => ctsR_out s9.drop.head hc⟩
            have k2 : CtsAt w9 (.slice ao3 1 cap3) [ct] := ⟨owns_reads (ownR_owns s9.drop.drop.head), fun c hc => ctsR_out s9.drop.drop.drop.head hc⟩
            have he : cts.map Ct.cp = [ct].map Ct.cp := by rw [hc, List.map_singleton, HCT.out]
            have hl : cts.length ≤ 100000 := by have := congrArg List.length he; simp at this; omega
            have HC := Lib.hid (keepCerts_any u2 _ cts [ct] w9 k1 k2 he hl)
            obtain ⟨xo, xc, rfl, -⟩ := k1.1
            have H9 := Lib.hid h9.below
            clear h9 s9 k1 k2 he hl hc H7
            go_wp2_with fail
            refine HC.out.mono ?_
            rintro e w10 ⟨rfl, hu10⟩
            have H10 := Lib.hid (H9.out.trans (hu10.below.mono H9.out.size))
            clear hu10
            go_wp2_with fail
            refine (wakes15_any _).mono ?_
            rintro e w11 ⟨rfl, hb⟩
            have H11 := Lib.hid (H10.out.trans (hb.mono H10.out.size))
            clear hb
            go_wp2_with fail
            go_ret
            exact ⟨rfl, H11.out⟩

end Go.Proofs.Ytdeadekeffficaa
