/- Parts of the proof, one behind the other. -/
import Derived.Test.YtimdphlolmbhnaaGreatAudC1

/- The document's service: an operation. -/
namespace Go.Proofs.YtimdphlolmbhnaaGreat
open Go.RowKit Go.Heap

section
variable {B : Nat} {w0 w W W' : World} {ss rs : List Res} {p : Nat} {c : Nat → Value} {n : Int} {s : Sv} {lv : Value}

abbrev ldB (p : Nat) (c : Nat → Value) : Res := funB p 31 138 c
/-- What an operation leaves. -/
def RpMk (B : Nat) (w0 : World) (rs : List Res) (p : Nat) (n : Int) (s : Sv) (lv : Value) (r : Rq) (e : Ending) (w' : World) : Prop :=
  ∃ c', e = .returned (.int .i64 (applyR s.vs r).1) ∧ LedC n ⟨(applyR s.vs r).2, s.tm⟩ lv c' ∧ Own B w0 w' (ldB p c' :: rs)

set_option maxHeartbeats 1600000 in
set_option maxRecDepth 100000 in
theorem rapply_bad (h : Own B w0 W (ldB p c :: rs)) (hc : LedC n s lv c) {client time kind key val sl : Int} (hb : key < 0 ∨ 64 ≤ key ∨ val ≤ -2147483648 ∨ 2147483648 ≤ val) :
    Calls Tryz.prog 22 #[.pointer (some ⟨p, 1, none⟩), .agg #[.int .i64 kind, .int .i64 key, .int .i64 val]] W (RpMk B w0 rs p n s lv ⟨client, time, kind, key, val, sl⟩) := by
  have HE := Lib.hid (⟨c, by rw [ap_bad hb], by rw [ap_bad hb]; exact hc, h.alloc (opO kind key val)⟩ : RpMk B w0 rs p n s lv ⟨client, time, kind, key, val, sl⟩ (.returned (.int .i64 0)) (W.alloc (opO kind key val)))
  clear h hc
  by_cases k1 : key < 0
  · clear hb
    go_enter Tryz.func22, Tryz.ntmps22
    go_wp2_with fail
    go_ret
    exact HE.out
  · have k1' : decide (key < 0) = false := by simp; omega
    by_cases k2 : 64 ≤ key
    · clear hb k1
      go_enter Tryz.func22, Tryz.ntmps22
      go_wp2_with fail
      go_ret
      exact HE.out
    · have k2' : decide (64 ≤ key) = false := by simp; omega
      by_cases k3 : val ≤ -2147483648
      · clear hb k1 k2
        go_enter Tryz.func22, Tryz.ntmps22
        go_wp2_with fail
        go_ret
        exact HE.out
      · have k3' : decide (val ≤ -2147483648) = false := by simp; omega
        have k4 : 2147483648 ≤ val := by omega
        clear hb k1 k2 k3
        go_enter Tryz.func22, Tryz.ntmps22
        go_wp2_with fail
        go_ret
        exact HE.out

set_option maxHeartbeats 4000000 in
set_option maxRecDepth 100000 in
theorem rapply (h : Own B w0 W (ldB p c :: rs)) (hc : LedC n s lv c) (r : Rq) :
    Calls Tryz.prog 22 #[.pointer (some ⟨p, 1, none⟩), .agg #[.int .i64 r.kind, .int .i64 r.key, .int .i64 r.val]] W (RpMk B w0 rs p n s lv r) := by
  obtain ⟨client, time, kind, key, val, sl⟩ := r
  by_cases hb : key < 0 ∨ 64 ≤ key ∨ val ≤ -2147483648 ∨ 2147483648 ≤ val
  · exact rapply_bad h hc hb
  obtain ⟨k, rfl⟩ : ∃ k : Nat, key = k := ⟨key.toNat, by omega⟩
  have hk : k < 64 := by omega
  have v1 : -2147483648 < val := by omega
  have v2 : val < 2147483648 := by omega
  have hw1 := hc.ok.at k
  have k1 : decide ((k : Int) < 0) = false := by simp
  have k2 : decide (64 ≤ (k : Int)) = false := by simp; omega
  have k3 : decide (val ≤ -2147483648) = false := by simp; omega
  have k4 : decide (2147483648 ≤ val) = false := by simp; omega
  have k0 : (0 : Int) ≤ (k : Int) := by omega
  have k64 : (k : Int) < 64 := by omega
  have h1 := h.alloc (opO kind k val)
  obtain ⟨hs, hcell, fz⟩ := funB_at h1.head
  have x0 := hcell (1 + k) (by omega)
  have x1 := hcell (65 + k) (by omega)
  rw [hc.vs k hk] at x0
  obtain ⟨b, hb1⟩ := hc.has k hk
  rw [hb1] at x1
  have z0 := fz (1 + k)
  have z1 := fz (65 + k)
  have HP := Lib.hid (fun (N : Nat) (b : Bool) (v : Int) => funB_put (funB_put (h1.upd0 ((Upd.refl _ _).drewN N)).drew (1 + k) (.int .i64 v)) (65 + k) (.bool b))
  have HK := Lib.hid (fun v b => hc.key k hk v b)
  have HC := Lib.hid hc
  have hne : W.heap.size ≠ p := by have := (funB_at h.head).1; omega
  have HF0 := Lib.hid (fun N : Nat => (show ((W.alloc (opO kind k val)).drewN N).drew.cell? ⟨W.heap.size, 1, none⟩ = some (.int .i64 k) from (block_cell (heap_alloc_new W (opO kind k val)) 1).trans rfl))
  have HF1 := Lib.hid (fun (N : Nat) v => (show ((((W.alloc (opO kind k val)).drewN N).drew).setCell ⟨p, 1 + k, none⟩ v).cell? ⟨W.heap.size, 1, none⟩ = some (.int .i64 k) from (World.cell?_of_block (heap_set_other (a := ⟨p, 1 + k, none⟩) hne v)).trans (HF0.out N)))
  clear fz hb h hcell hb1 hne
  generalize hwas : s.vs.getD k 0 = was at *
  have hadd : IntKind.i64.wrap (was + val) = was + val := IntWalk.i64_in _ (by omega)
  by_cases e1 : kind = 1
  · subst e1
    have HE := fun w' c' h2 h' => (⟨c', by rw [ap_1 hk v1 v2, hwas], by rw [ap_1 hk v1 v2]; exact h2, h'⟩ : RpMk B w0 rs p n s lv ⟨client, time, 1, k, val, sl⟩ (.returned (.int .i64 was)) w')
    have HE := Lib.hid (fun N => HE _ _ (HK.out val true v1 v2) (HP.out N true val))
    clear hwas h1 hk hc HK HP HC
    go_enter Tryz.func22, Tryz.ntmps22
    go_wp2_with fail
    go_quiet (fail)
    go_wp2_with fail
    refine Held.wp_held [(W.heap.size, 1, [.int .i64 k])] [(5, 0)] [15] [(12, true)] (by kernel_rfl) (by kernel_rfl) ⟨⟨HF0.out _, trivial⟩, trivial⟩ ?_
    simp only [Held.cutAt, Held.walk, List.take_succ_cons, List.take_zero, List.drop_succ_cons, List.drop_zero]
    go_wp2_with fail
    refine ⟨⟨⟨HF1.out _ _, trivial⟩, trivial⟩, ?_⟩
    go_wp2_with fail
    refine ⟨trivial, by rfl, ⟨⟨rfl, .inl ⟨by kernel_rfl, rfl⟩⟩, trivial⟩, ?_⟩
    go_wp2_with fail
    go_ret
    exact HE.out _
  by_cases e2 : kind = 2
  · subst e2
    have HE := fun w' c' h2 h' => (⟨c', by rw [ap_2 hk v1 v2, hwas], by rw [ap_2 hk v1 v2]; exact h2, h'⟩ : RpMk B w0 rs p n s lv ⟨client, time, 2, k, val, sl⟩ (.returned (.int .i64 was)) w')
    have HE := Lib.hid (fun N => HE _ _ hc (h1.upd0 ((Upd.refl _ _).drewN N)))
    clear hwas h1 hk hc HK HP HC e1
    go_enter Tryz.func22, Tryz.ntmps22
    go_wp2_with fail
    go_quiet (fail)
    go_wp2_with fail
    go_ret
    exact HE.out _
  by_cases e3 : kind = 3
  · subst e3
    by_cases hs3 : -2147483648 < was + val ∧ was + val < 2147483648
    · have HE := fun w' c' h2 h' => (⟨c', by rw [ap_3b hk v1 v2 (by rw [hwas]; exact hs3), hwas], by rw [ap_3b hk v1 v2 (by rw [hwas]; exact hs3), hwas]; exact h2, h'⟩ : RpMk B w0 rs p n s lv ⟨client, time, 3, k, val, sl⟩ (.returned (.int .i64 (was + val))) w')
      have HE := Lib.hid (fun N => HE _ _ (HK.out (was + val) true hs3.1 hs3.2) (HP.out N true (was + val)))
      have k5 : decide (was + val ≤ -2147483648) = false := by simp; omega
      have k6 : decide (2147483648 ≤ was + val) = false := by simp; omega
      clear hwas h1 hk hc HK HP HC e1 e2 hs3
      go_enter Tryz.func22, Tryz.ntmps22
      go_wp2_with fail
      go_quiet (fail)
      go_wp2_with fail
      refine Held.wp_held [(W.heap.size, 1, [.int .i64 k])] [(5, 0)] [14] [(11, true)] (by kernel_rfl) (by kernel_rfl) ⟨⟨HF0.out _, trivial⟩, trivial⟩ ?_
      simp only [Held.cutAt, Held.walk, List.take_succ_cons, List.take_zero, List.drop_succ_cons, List.drop_zero]
      go_wp2_with fail
      refine ⟨⟨⟨HF1.out _ _, trivial⟩, trivial⟩, ?_⟩
      go_wp2_with fail
      refine ⟨trivial, by rfl, ⟨⟨rfl, .inl ⟨by kernel_rfl, rfl⟩⟩, trivial⟩, ?_⟩
      go_wp2_with fail
      go_ret
      exact HE.out _
    · have HE := fun w' c' h2 h' => (⟨c', by rw [ap_3a hk v1 v2 (by rw [hwas]; exact hs3), hwas], by rw [ap_3a hk v1 v2 (by rw [hwas]; exact hs3)]; exact h2, h'⟩ : RpMk B w0 rs p n s lv ⟨client, time, 3, k, val, sl⟩ (.returned (.int .i64 was)) w')
      have HE := Lib.hid (fun N => HE _ _ hc (h1.upd0 ((Upd.refl _ _).drewN N)))
      clear hwas h1 hk hc HK HP HC e1 e2
      by_cases k5 : was + val ≤ -2147483648
      · clear hs3
        go_enter Tryz.func22, Tryz.ntmps22
        go_wp2_with fail
        go_quiet (fail)
        go_wp2_with fail
        go_ret
        exact HE.out _
      · have k5' : decide (was + val ≤ -2147483648) = false := by simp; omega
        have k6 : 2147483648 ≤ was + val := by omega
        clear hs3 k5
        go_enter Tryz.func22, Tryz.ntmps22
        go_wp2_with fail
        go_quiet (fail)
        go_wp2_with fail
        go_ret
        exact HE.out _
  by_cases e4 : kind = 4
  · subst e4
    have HE := fun w' c' h2 h' => (⟨c', by rw [ap_4 hk v1 v2, hwas], by rw [ap_4 hk v1 v2]; exact h2, h'⟩ : RpMk B w0 rs p n s lv ⟨client, time, 4, k, val, sl⟩ (.returned (.int .i64 was)) w')
    have HE := Lib.hid (fun N => HE _ _ (HK.out 0 false (by omega) (by omega)) (HP.out N false 0))
    clear hwas h1 hk hc HK HP HC e1 e2 e3
    go_enter Tryz.func22, Tryz.ntmps22
    go_wp2_with fail
    go_quiet (fail)
    go_wp2_with fail
    refine Held.wp_held [(W.heap.size, 1, [.int .i64 k])] [(5, 0)] [13] [(10, true)] (by kernel_rfl) (by kernel_rfl) ⟨⟨HF0.out _, trivial⟩, trivial⟩ ?_
    simp only [Held.cutAt, Held.walk, List.take_succ_cons, List.take_zero, List.drop_succ_cons, List.drop_zero]
    go_wp2_with fail
    refine ⟨⟨⟨HF1.out _ _, trivial⟩, trivial⟩, ?_⟩
    go_wp2_with fail
    refine ⟨trivial, by rfl, ⟨⟨rfl, .inl ⟨by kernel_rfl, rfl⟩⟩, trivial⟩, ?_⟩
    go_wp2_with fail
    go_ret
    exact HE.out _
  by_cases e5 : kind = 5
  · subst e5
    have HE := Lib.hid (fun w' (h' : Own B w0 w' (ldB p c :: rs)) => (⟨c, by rw [ap_5 hk v1 v2], by rw [ap_5 hk v1 v2]; exact hc, h'⟩ : RpMk B w0 rs p n s lv ⟨client, time, 5, k, val, sl⟩ (.returned (.int .i64 (sumV s.vs))) w'))
    have H0 := Lib.hid (fun N : Nat => h1.upd0 ((Upd.refl _ _).drewN N))
    clear h1 hk hc HK HP e1 e2 e3 e4 hadd
    go_enter Tryz.func22, Tryz.ntmps22
    go_wp2_with fail
    go_quiet (fail)
    go_wp2_with fail
    clear x0 x1 z0 z1
    go_loopw [7, 8] (fun a j wr => ∃ m : Nat, m ≤ 64 ∧ j = .int .i64 m ∧ a = .int .i64 (sumV (s.vs.take m)) ∧ Hid (Own B w0 wr (ldB p c :: rs))) (fun _ j _ => 64 - (intOf j).toNat)
    case atStart => exact ⟨0, by omega, rfl, rfl, Lib.hid (H0.out _)⟩
    case round =>
      obtain ⟨m, hm, rfl, rfl, H2⟩ := hrel
      by_cases hlt : m < 64
      · have hmI : (m : Int) < 64 := by omega
        have hm0 : (0 : Int) ≤ (m : Int) := by omega
        obtain ⟨-, hcell, -⟩ := funB_at H2.out.head
        have y0 := hcell (1 + m) (by omega)
        rw [HC.out.vs m hlt] at y0
        have hl64 : m < s.vs.length := by rw [HC.out.ok.1]; exact hlt
        have hv := sumV_in HC.out.ok m
        have hw := HC.out.ok.at m
        have hsum : sumV (s.vs.take (m + 1)) = sumV (s.vs.take m) + s.vs.getD m 0 := by rw [sumV_take _ _ hl64]; simp [List.getD, hl64]
        have HS := Lib.hid hsum
        have hadd : IntKind.i64.wrap (sumV (s.vs.take m) + s.vs.getD m 0) = sumV (s.vs.take m) + s.vs.getD m 0 := IntWalk.i64_in _ (by omega)
        clear hcell hl64 hv hw hsum
        generalize sumV (s.vs.take m) = sm at *
        generalize s.vs.getD m 0 = sv at *
        go_wp2_with fail
        go_roundw
        case rel => exact ⟨m + 1, by omega, by go_num, by rw [HS.out], H2⟩
        case measure => simp [intOf]; omega
      · have hm64 : m = 64 := by omega
        subst hm64
        have hall : s.vs.take 64 = s.vs := by rw [List.take_of_length_le (by rw [HC.out.ok.1]; omega)]
        rw [hall]
        go_wp2_with fail
        go_ret
        exact HE.out _ H2.out
  have b1 : (kind == 1) = false := by simpa using e1
  have b2 : (kind == 2) = false := by simpa using e2
  have b3 : (kind == 3) = false := by simpa using e3
  have b4 : (kind == 4) = false := by simpa using e4
  have b5 : (kind == 5) = false := by simpa using e5
  have HE := Lib.hid (fun N : Nat => (⟨c, by rw [ap_6 hk v1 v2 e1 e2 e3 e4 e5], by rw [ap_6 hk v1 v2 e1 e2 e3 e4 e5]; exact hc, h1.upd0 ((Upd.refl _ _).drewN N)⟩ : RpMk B w0 rs p n s lv ⟨client, time, kind, k, val, sl⟩ (.returned (.int .i64 0)) ((W.alloc (opO kind k val)).drewN N)))
  clear e1 e2 e3 e4 e5 hwas h1 hk hc HK HP HC
  go_enter Tryz.func22, Tryz.ntmps22
  go_wp2_with fail
  go_quiet (fail)
  go_wp2_with fail
  go_ret
  exact HE.out _

end
end Go.Proofs.YtimdphlolmbhnaaGreat

/- The document's ledger runs a batch. -/
namespace Go.Proofs.YtimdphlolmbhnaaGreat
open Go.RowKit Go.Heap

theorem run_next {n : Int} {s0 : Sv} {rs : List Rq} {k : Nat} (hk : k < rs.length) {new : List En} {s : Sv} (h : runR n s0 (rs.take k) = (new, s)) : runR n s0 (rs.take (k + 1)) = (new ++ enOf rs[k] (stepR n s rs[k]).1, (stepR n s rs[k]).2) := by
  have e : rs.take (k + 1) = rs.take k ++ [rs[k]] := by rw [List.take_add_one, List.getElem?_eq_getElem hk]; rfl
  rw [e, runR_append, h]
  simp [runR]
theorem step_no {n : Int} {s : Sv} {r : Rq} (h : r.client < 0 ∨ n ≤ r.client ∨ r.time ≤ s.tm r.client.toNat) : stepR n s r = (none, s) := by unfold stepR; rw [if_pos h]
theorem step_yes {n : Int} {s : Sv} {r : Rq} {q : Nat} (hq : r.client = q) (h1 : (q : Int) < n) (h2 : s.tm q < r.time) : stepR n s r = (some (applyR s.vs r).1, ⟨(applyR s.vs r).2, upT s.tm q r.time⟩) := by
  unfold stepR
  have e : r.client.toNat = q := by omega
  rw [e, if_neg (by omega)]
theorem own_ne {B : Nat} {w0 W : World} {rs : List Res} (h : Own B w0 W rs) (i j : Nat) {r s : Res} (e1 : rs[i]? = some r) (e2 : rs[j]? = some s) (hij : i < j) {a b : Nat} (ha : a ∈ r.M) (hb : b ∈ s.M) : a ≠ b := fun e => by
  subst e
  obtain ⟨hi, rfl⟩ := List.getElem?_eq_some_iff.1 e1
  obtain ⟨hj, rfl⟩ := List.getElem?_eq_some_iff.1 e2
  exact (List.pairwise_iff_getElem.1 h.apart) i j hi hj hij a ha hb
theorem enR_len (v : Value) (l : List En) (m : Nat) (xs : List Value) (h1 : m = l.length) (h2 : xs = ensCells l) : ownR 40 7 v m xs = enR v l := by subst h1 h2; rfl
theorem ens_append (a b : List En) : ensCells (a ++ b) = ensCells a ++ ensCells b := by simp [ensCells]
theorem ens_1 (e : En) : ensCells [e] = enCells e := by simp [ensCells]
theorem reads_en (w : World) (e : En) (g : Nat) (h : w.heap[g]? = some (enBox e)) : Reads w (.slice (some ⟨g, 0, none⟩) 1 1) 7 1 (ensCells [e]) :=
  ⟨_, _, rfl, by simp, by unfold maxLen; simp, rfl, (fun e => by cases e), fun _ => ⟨g, 0, rfl, block_lt h, fun j hj => by rw [Nat.zero_add, block_cell h]; simp [ensCells, enCells]⟩⟩

section
variable {w : World} {b c : Nat} {x0 x1 x2 x3 x4 x5 y0 y1 y2 y3 y4 y5 y6 : Value} {o : Obj}
theorem rq_alloc (h : b < w.heap.size) (k : w.cell? ⟨b, 0, none⟩ = some x0 ∧ w.cell? ⟨b, 1, none⟩ = some x1 ∧ w.cell? ⟨b, 2, none⟩ = some x2 ∧ w.cell? ⟨b, 3, none⟩ = some x3 ∧ w.cell? ⟨b, 4, none⟩ = some x4 ∧ w.cell? ⟨b, 5, none⟩ = some x5) :
    (w.alloc o).cell? ⟨b, 0, none⟩ = some x0 ∧ (w.alloc o).cell? ⟨b, 1, none⟩ = some x1 ∧ (w.alloc o).cell? ⟨b, 2, none⟩ = some x2 ∧ (w.alloc o).cell? ⟨b, 3, none⟩ = some x3 ∧ (w.alloc o).cell? ⟨b, 4, none⟩ = some x4 ∧ (w.alloc o).cell? ⟨b, 5, none⟩ = some x5 := by
  have e : ∀ i, (w.alloc o).cell? ⟨b, i, none⟩ = w.cell? ⟨b, i, none⟩ := fun i => World.cell?_of_block (heap_alloc_lt h)
  simp only [e]
  exact k
theorem rq_alloc' (h : b < w.heap.size) (k : w.drew.cell? ⟨b, 0, none⟩ = some x0 ∧ w.drew.cell? ⟨b, 1, none⟩ = some x1 ∧ w.drew.cell? ⟨b, 2, none⟩ = some x2 ∧ w.drew.cell? ⟨b, 3, none⟩ = some x3 ∧ w.drew.cell? ⟨b, 4, none⟩ = some x4 ∧ w.drew.cell? ⟨b, 5, none⟩ = some x5) :
    (w.alloc o).drew.cell? ⟨b, 0, none⟩ = some x0 ∧ (w.alloc o).drew.cell? ⟨b, 1, none⟩ = some x1 ∧ (w.alloc o).drew.cell? ⟨b, 2, none⟩ = some x2 ∧ (w.alloc o).drew.cell? ⟨b, 3, none⟩ = some x3 ∧ (w.alloc o).drew.cell? ⟨b, 4, none⟩ = some x4 ∧ (w.alloc o).drew.cell? ⟨b, 5, none⟩ = some x5 := rq_alloc (w := w) h k
theorem rq_sets7 (h : b ≠ c) (k : w.cell? ⟨b, 0, none⟩ = some x0 ∧ w.cell? ⟨b, 1, none⟩ = some x1 ∧ w.cell? ⟨b, 2, none⟩ = some x2 ∧ w.cell? ⟨b, 3, none⟩ = some x3 ∧ w.cell? ⟨b, 4, none⟩ = some x4 ∧ w.cell? ⟨b, 5, none⟩ = some x5) :
    (((((((w.setCell ⟨c, 0, none⟩ y0).setCell ⟨c, 1, none⟩ y1).setCell ⟨c, 2, none⟩ y2).setCell ⟨c, 3, none⟩ y3).setCell ⟨c, 4, none⟩ y4).setCell ⟨c, 5, none⟩ y5).setCell ⟨c, 6, none⟩ y6).cell? ⟨b, 0, none⟩ = some x0 ∧ (((((((w.setCell ⟨c, 0, none⟩ y0).setCell ⟨c, 1, none⟩ y1).setCell ⟨c, 2, none⟩ y2).setCell ⟨c, 3, none⟩ y3).setCell ⟨c, 4, none⟩ y4).setCell ⟨c, 5, none⟩ y5).setCell ⟨c, 6, none⟩ y6).cell? ⟨b, 1, none⟩ = some x1 ∧ (((((((w.setCell ⟨c, 0, none⟩ y0).setCell ⟨c, 1, none⟩ y1).setCell ⟨c, 2, none⟩ y2).setCell ⟨c, 3, none⟩ y3).setCell ⟨c, 4, none⟩ y4).setCell ⟨c, 5, none⟩ y5).setCell ⟨c, 6, none⟩ y6).cell? ⟨b, 2, none⟩ = some x2 ∧ (((((((w.setCell ⟨c, 0, none⟩ y0).setCell ⟨c, 1, none⟩ y1).setCell ⟨c, 2, none⟩ y2).setCell ⟨c, 3, none⟩ y3).setCell ⟨c, 4, none⟩ y4).setCell ⟨c, 5, none⟩ y5).setCell ⟨c, 6, none⟩ y6).cell? ⟨b, 3, none⟩ = some x3 ∧ (((((((w.setCell ⟨c, 0, none⟩ y0).setCell ⟨c, 1, none⟩ y1).setCell ⟨c, 2, none⟩ y2).setCell ⟨c, 3, none⟩ y3).setCell ⟨c, 4, none⟩ y4).setCell ⟨c, 5, none⟩ y5).setCell ⟨c, 6, none⟩ y6).cell? ⟨b, 4, none⟩ = some x4 ∧ (((((((w.setCell ⟨c, 0, none⟩ y0).setCell ⟨c, 1, none⟩ y1).setCell ⟨c, 2, none⟩ y2).setCell ⟨c, 3, none⟩ y3).setCell ⟨c, 4, none⟩ y4).setCell ⟨c, 5, none⟩ y5).setCell ⟨c, 6, none⟩ y6).cell? ⟨b, 5, none⟩ = some x5 := by
  have e : ∀ i, (((((((w.setCell ⟨c, 0, none⟩ y0).setCell ⟨c, 1, none⟩ y1).setCell ⟨c, 2, none⟩ y2).setCell ⟨c, 3, none⟩ y3).setCell ⟨c, 4, none⟩ y4).setCell ⟨c, 5, none⟩ y5).setCell ⟨c, 6, none⟩ y6).cell? ⟨b, i, none⟩ = w.cell? ⟨b, i, none⟩ := fun i => World.cell?_of_block (by rw [hp_other h, hp_other h, hp_other h, hp_other h, hp_other h, hp_other h, hp_other h])
  simp only [e]
  exact k
end

section
variable {B : Nat} {w0 w W W' : World} {ss rs : List Res} {p : Nat}

/-- A batch so far. -/
def RunMk (B : Nat) (w0 : World) (ss : List Res) (p : Nat) (n : Int) (s0 : Sv) (lv : Value) (es : List En) (v : Value) (rs : List Rq) (k : Nat) (vo : Value) (w : World) : Prop :=
  ∃ c, LedC n (runR n s0 (rs.take k)).2 lv c ∧ Own B w0 w (enR vo (runR n s0 (rs.take k)).1 :: ldB p c :: enR lv es :: batR v rs :: ss)

def RunOk (B : Nat) (w0 : World) (ss : List Res) (p : Nat) (n : Int) (s0 : Sv) (es : List En) (v : Value) (rs : List Rq) (e : Ending) (w : World) : Prop :=
  ∃ vo c lv, e = .returned vo ∧ LedC n (runR n s0 rs).2 lv c ∧ Own B w0 w (ldB p c :: enR lv (es ++ (runR n s0 rs).1) :: enR vo (runR n s0 rs).1 :: batR v rs :: ss)

set_option maxHeartbeats 4000000 in
set_option maxRecDepth 100000 in
theorem rrun_any {c : Nat → Value} {n : Int} {s : Sv} {lv : Value} {es : List En} {v : Value} {bs : List Rq} (h : Own B w0 W (ldB p c :: enR lv es :: batR v bs :: ss)) (hc : LedC n s lv c) (hn : n ≤ 4) (hb : bs.length ≤ 1000) (he : es.length ≤ 90000) :
    Calls Tryz.prog 7 #[.pointer (some ⟨p, 0, none⟩), v] W (RunOk B w0 ss p n s es v bs) := by
  obtain ⟨i0, hi, hz0, hz1, hz2⟩ := info_parts Tryz.infoEn
  obtain ⟨ao, cap, rfl⟩ := bat_form (batR_out (h.get 2 rfl))
  have H0 : Hid (RunMk B w0 ss p n s lv es (.slice ao bs.length cap) bs 0 (.slice none 0 0) W) := Lib.hid ⟨c, hc, h.row0⟩
  have HNF : Hid (∀ k, (runR n s (bs.take k)).1.length ≤ 1000) := Lib.hid (fun k => by
    have h1 := (run_ok (n := n) (bs.take k) hc.ok).2.2
    have h2 := List.length_take_le k bs
    have h3 : (bs.take k).length ≤ bs.length := by simp; omega
    omega)
  clear h hc
  go_enter Tryz.func7, Tryz.ntmps7
  go_wp2_with fail
  go_loopw [5, 6] (fun a j wr => ∃ (k : Nat) (vo : Value), k ≤ bs.length ∧ j = .int .i64 k ∧ vo = a ∧ Hid (RunMk B w0 ss p n s lv es (.slice ao bs.length cap) bs k vo wr)) (fun _ j _ => bs.length - (intOf j).toNat)
  case atStart => exact ⟨0, _, by omega, rfl, rfl, H0⟩
  case round =>
    clear H0
    obtain ⟨k, vo, hk, rfl, rfl, HM⟩ := hrel
    by_cases hlt : k < bs.length
    · have hkI : (k : Int) < (bs.length : Int) := by omega
      have hk0 : (0 : Int) ≤ (k : Int) := by omega
      obtain ⟨c, hc, ho⟩ := HM.out
      have hl1 := HNF.out k
      obtain ⟨new, s1, hrun⟩ : ∃ new s1, runR n s (bs.take k) = (new, s1) := ⟨_, _, rfl⟩
      have HN := Lib.hid (run_next hlt hrun)
      rw [hrun] at hc ho hl1
      simp only at hc ho hl1
      clear hrun HM HNF
      obtain ⟨ao', cap', hv', -, -, -, -, h5⟩ := batR_out (ho.get 3 rfl)
      simp only [Value.slice.injEq] at hv'
      obtain ⟨rfl, -, rfl⟩ := hv'
      obtain ⟨b, o, rfl, hbs, hcs⟩ := h5 (by omega)
      obtain ⟨q0, q1, q2, q3, q4, q5⟩ := bat_cells hcs k bs[k] (by simp)
      clear hcs h5 hbs
      generalize bs[k] = r at *
      obtain ⟨client, time, kind, key, val, sl⟩ := r
      simp only at q0 q1 q2 q3 q4 q5
      have h1 := ho.box (rqBox ⟨client, time, kind, key, val, sl⟩)
      obtain ⟨hp, hcell, hfz⟩ := funB_at (h1.get 2 rfl)
      have x0 := hcell 0 (by omega)
      rw [hc.h0] at x0
      have HNO := Lib.hid (fun hno : client < 0 ∨ n ≤ client ∨ time ≤ s1.tm client.toNat => fun N : Nat => (⟨c, by rw [HN.out, step_no hno]; exact hc, by rw [HN.out, step_no hno]; simp only [enOf, List.append_nil]; exact h1.drop.upd0 ((Upd.refl _ _).drewN N)⟩ : RunMk B w0 ss p n s lv es (.slice (some ⟨b, o, none⟩) bs.length cap) bs (k + 1) vo ((wr.alloc (rqBox ⟨client, time, kind, key, val, sl⟩)).drewN N)))
      have HB := Lib.hid h1
      have HCL := Lib.hid hcell
      have HFZ := Lib.hid hfz
      have HC := Lib.hid hc
      clear hc ho h1 hcell hfz
      by_cases c1 : client < 0
      · have HE := Lib.hid (HNO.out (.inl c1))
        clear HNO
        go_wp2_with fail
        go_quiet (fail)
        go_wp2_with fail
        go_roundw
        case rel => exact ⟨k + 1, vo, by omega, by go_num, rfl, Lib.hid (HE.out _)⟩
        case measure => simp [intOf]; omega
      by_cases c2 : n ≤ client
      · have HE := Lib.hid (HNO.out (.inr (.inl c2)))
        have c1' : decide (client < 0) = false := by simp; omega
        clear HNO c1
        go_wp2_with fail
        go_quiet (fail)
        go_wp2_with fail
        go_roundw
        case rel => exact ⟨k + 1, vo, by omega, by go_num, rfl, Lib.hid (HE.out _)⟩
        case measure => simp [intOf]; omega
      obtain ⟨q, rfl⟩ : ∃ q : Nat, client = q := ⟨client.toNat, by omega⟩
      have c1' : decide ((q : Int) < 0) = false := by simp
      have c2' : decide (n ≤ (q : Int)) = false := by simp; omega
      have hq4 : (q : Int) < 4 := by omega
      have hq0 : (0 : Int) ≤ (q : Int) := by omega
      have x1 := HCL.out (129 + q) (by omega)
      rw [HC.out.tm q (by omega)] at x1
      by_cases c3 : time ≤ s1.tm q
      · have HE := Lib.hid (HNO.out (.inr (.inr (by simpa using c3))))
        clear HNO c1 c2
        generalize s1.tm q = tq at *
        go_wp2_with fail
        go_quiet (fail)
        go_wp2_with fail
        go_roundw
        case rel => exact ⟨k + 1, vo, by omega, by go_num, rfl, Lib.hid (HE.out _)⟩
        case measure => simp [intOf]; omega
      have c3' : decide (time ≤ s1.tm q) = false := by simp; omega
      have HY := Lib.hid (step_yes (n := n) (s := s1) (r := ⟨q, time, kind, key, val, sl⟩) rfl (by omega) (by simp only; omega))
      clear HNO c1 c2 c3
      generalize s1.tm q = tq at *
      generalize hap : applyR s1.vs ⟨q, time, kind, key, val, sl⟩ = ap at *
      have HAP := Lib.hid hap
      clear hap
      go_upto_region 6 with fail
      have HB2 := Lib.hid HB.out
      generalize wr.heap.size = e0 at *
      generalize wr.alloc _ = w2 at *
      clear q0 q1 q2 q3 q4 q5
      obtain ⟨p0, p1, p2, p3, p4, p5⟩ := rq_cells HB.out.blk_out
      go_quiet (fail)
      go_upto_region 7 with fail
      have H3 := Lib.hid (HB.out.upd0 ((Upd.refl _ _).drewN nq))
      clear p0 p1 p2 p3 p4 p5 x0 x1 c3' HB HB2 HCL HFZ
      generalize w2.drewN nq = w3 at *
      go_cut [8] (fun p8 wx => ∃ (e1 : Nat) (c' : Nat → Value), p8 = .pointer (some ⟨e1, 0, none⟩) ∧ Hid (LedC n ⟨ap.2, s1.tm⟩ lv c') ∧ Hid (Own B w0 wx (blk e1 (enBox ⟨⟨q, time, kind, key, val, sl⟩, ap.1⟩) :: ldB p c' :: blk e0 (rqBox ⟨q, time, kind, key, val, sl⟩) :: enR vo new :: enR lv es :: batR (.slice (some ⟨b, o, none⟩) bs.length cap) bs :: ss)))
      case first =>
        obtain ⟨b0, b1, b2, b3, b4, b5⟩ := rq_cells H3.out.drew.blk_out
        have hlt0 : e0 < w3.heap.size := block_lt H3.out.blk_out
        have ha4 := rapply H3.out.drew.rot HC.out ⟨q, time, kind, key, val, sl⟩
        dsimp only at ha4
        have HA4 := Lib.hid ha4
        have haw := rapply ((H3.out.box (.cells #[.int .i64 0, .int .i64 0, .int .i64 0, .int .i64 0, .int .i64 0, .int .i64 0, .int .i64 0] 40 (0, 0))).drew).perm3' HC.out ⟨q, time, kind, key, val, sl⟩
        dsimp only at haw
        have HAW := Lib.hid haw
        clear ha4 haw
        go_region_held3 (fun w' => w'.cell? ⟨e0, 0, none⟩ = some (.int .i64 q) ∧ w'.cell? ⟨e0, 1, none⟩ = some (.int .i64 time) ∧ w'.cell? ⟨e0, 2, none⟩ = some (.int .i64 kind) ∧ w'.cell? ⟨e0, 3, none⟩ = some (.int .i64 key) ∧ w'.cell? ⟨e0, 4, none⟩ = some (.int .i64 val) ∧ w'.cell? ⟨e0, 5, none⟩ = some (.int .i64 sl))
          (first | (with_reducible exact ⟨d0, d1, d2, d3, d4, d5⟩) | (with_reducible exact ⟨b0, b1, b2, b3, b4, b5⟩) | (with_reducible exact rq_alloc hlt4 ⟨d0, d1, d2, d3, d4, d5⟩) | (with_reducible exact rq_alloc' hlt0 ⟨b0, b1, b2, b3, b4, b5⟩) | (with_reducible exact rq_sets7 hne4 ⟨d0, d1, d2, d3, d4, d5⟩))
          ((go_at_call 22; first
            | ((with_reducible refine HA4.out.mono ?_); rintro e w4 ⟨c4, rfl, hc4, h4⟩; rw [HAP.out] at hc4 ⊢; have H4 := Lib.hid h4; have HC4 := Lib.hid hc4; have hlt4 := block_lt (h4.blkAt 1 rfl); obtain ⟨d0, d1, d2, d3, d4, d5⟩ := rq_cells (h4.blkAt 1 rfl); clear h4 hc4)
            | ((with_reducible refine HAW.out.mono ?_); rintro e w4 ⟨c4, rfl, hc4, h4⟩; rw [HAP.out] at hc4 ⊢; have H4 := Lib.hid h4; have HC4 := Lib.hid hc4; have hne4 := (own_ne h4 1 2 rfl rfl (by decide) (List.mem_singleton.2 rfl) (List.mem_singleton.2 rfl)).symm; have hx4 := en_cells (p := ⟨⟨0, 0, 0, 0, 0, 0⟩, 0⟩) (h4.blkAt 1 rfl); obtain ⟨x0, x1, x2, x3, x4, x5, x6⟩ := hx4; have hf4 := block_frozen (h4.blkAt 1 rfl); obtain ⟨d0, d1, d2, d3, d4, d5⟩ := rq_cells (h4.blkAt 2 rfl); clear h4 hc4)))
        all_goals go_wp2_with fail
        all_goals go_meet
        · exact ⟨_, c4, rfl, HC4, Lib.hid (H4.out.box _)⟩
        · exact ⟨_, c4, rfl, HC4, Lib.hid (((((((H4.out.swap.store 0 _).store 1 _).store 2 _).store 3 _).store 4 _).store 5 _).store 6 _)⟩
      case rest =>
        go_upto_region 8 with fail
        obtain ⟨e1, c4, rfl, HC4, H5⟩ := hcut
        clear H3 HC HAP
        generalize ap.1 = res at *
        generalize ap.2 = vs1 at *
        have HN2 : Hid (runR n s (bs.take (k + 1)) = (new ++ [⟨⟨q, time, kind, key, val, sl⟩, res⟩], ⟨vs1, upT s1.tm q time⟩)) := Lib.hid (by rw [HN.out, HY.out]; rfl)
        clear HN HY
        have H6 := Lib.hid H5.out.drew
        obtain ⟨hp, hcell, hfz⟩ := funB_at (H5.out.get 1 rfl)
        obtain ⟨y0, y1, -, -, -, -⟩ := rq_cells (H6.out.blkAt 2 rfl)
        obtain ⟨-, -, -, -, -, -, y6⟩ := en_cells (H6.out.blkAt 0 rfl)
        have x1 := hcell (129 + q) (by omega)
        have x2 := hcell (133 + q) (by omega)
        rw [HC4.out.tm q (by omega)] at x1
        obtain ⟨rv, hrv⟩ := HC4.out.rs q (by omega)
        rw [hrv] at x2
        clear hrv
        have z1 := hfz (129 + q)
        have z2 := hfz (133 + q)
        have hne0 : e0 ≠ p := fun e => own_ne H6.out 1 2 rfl rfl (by decide) (by simp [funB]) (by simp [blk]) e.symm
        have hne1 : e1 ≠ p := own_ne H6.out 0 1 rfl rfl (by decide) (by simp [blk]) (by simp [funB])
        have F0 := Lib.hid (fun v => (World.cell?_of_block (heap_set_other (a := ⟨p, 129 + q, none⟩) hne0 v)).trans y0)
        have F1 := Lib.hid (fun v => (World.cell?_of_block (heap_set_other (a := ⟨p, 129 + q, none⟩) hne0 v)).trans y1)
        have F6 := Lib.hid (fun v => (World.cell?_of_block (heap_set_other (a := ⟨p, 129 + q, none⟩) hne1 v)).trans y6)
        have HP := Lib.hid (fun v1 v2 => funB_put (funB_put H6.out.swap (129 + q) v1) (133 + q) v2)
        clear hcell hfz
        refine Held.wp_held [(e0, 0, [.int .i64 q]), (e0, 1, [.int .i64 time]), (e1, 6, [.int .i64 res])] [(2, 0), (5, 0), (7, 1), (9, 2)] [17] [(14, true)] (by kernel_rfl) (by kernel_rfl) ⟨⟨y0, trivial⟩, ⟨y1, trivial⟩, ⟨y6, trivial⟩, trivial⟩ ?_
        simp only [Held.cutAt, Held.walk, List.take_succ_cons, List.take_zero, List.drop_succ_cons, List.drop_zero]
        go_wp2_with fail
        refine ⟨⟨⟨F0.out _, trivial⟩, ⟨F1.out _, trivial⟩, ⟨F6.out _, trivial⟩, trivial⟩, ?_⟩
        go_wp2_with fail
        refine ⟨trivial, by rfl, ⟨⟨rfl, .inl ⟨by kernel_rfl, rfl⟩⟩, ⟨rfl, .inl ⟨by kernel_rfl, rfl⟩⟩, ⟨rfl, .inl ⟨by kernel_rfl, rfl⟩⟩, ⟨rfl, .inl ⟨by kernel_rfl, rfl⟩⟩, trivial⟩, ?_⟩
        have HV := Lib.hid (HP.out (.int .i64 time) (.int .i64 res))
        have HC6 := Lib.hid (HC4.out.time q (by omega) time res)
        go_upto_region 9 with fail
        have HV : Hid (Own B w0 ((wc.setCell ⟨p, 129 + q, none⟩ (.int .i64 time)).setCell ⟨p, 133 + q, none⟩ (.int .i64 res)).drew (ldB p (setF (setF c4 (129 + q) (.int .i64 time)) (133 + q) (.int .i64 res)) :: blk e1 (enBox ⟨⟨q, time, kind, key, val, sl⟩, res⟩) :: blk e0 (rqBox ⟨q, time, kind, key, val, sl⟩) :: enR vo new :: enR lv es :: batR (.slice (some ⟨b, o, none⟩) bs.length cap) bs :: ss)) := HV
        clear x1 x2 z1 z2 F0 F1 F6 HP y0 y1 y6 H6 H5 hne0 hne1
        generalize ((wc.setCell ⟨p, 129 + q, none⟩ (.int .i64 time)).setCell ⟨p, 133 + q, none⟩ (.int .i64 res)).drew = w6 at HV ⊢
        obtain ⟨r0, r1, r2, r3, r4, r5, r6⟩ := en_cells (HV.out.blkAt 1 rfl)
        have hd := HV.out.alloc (enBox ⟨⟨q, time, kind, key, val, sl⟩, res⟩)
        have HD := Lib.hid hd
        have HW := Lib.hid (ownR_owns (hd.get 3 rfl))
        have HNW : Hid (∀ j u, (enCells ⟨⟨q, time, kind, key, val, sl⟩, res⟩)[j]? = some u → (w6.alloc (enBox ⟨⟨q, time, kind, key, val, sl⟩, res⟩)).cell? ((⟨w6.heap.size, 0, none⟩ : Addr).add j) = some u) := Lib.hid (World.news_of_block (heap_alloc_new w6 (enBox ⟨⟨q, time, kind, key, val, sl⟩, res⟩)))
        have HON : Hid (∀ u ∈ enCells ⟨⟨q, time, kind, key, val, sl⟩, res⟩, u.oneCell' = true) := Lib.hid (fun u hu => ens_one [⟨⟨q, time, kind, key, val, sl⟩, res⟩] u (by simpa [ensCells] using hu))
        have HMX := Lib.hid (small_max (k := new.length) (by omega))
        have HM4 : Hid ((new.length + 1) * 56 ≤ 140737488355328) := Lib.hid (by omega)
        clear hd hl1
        go_wp2_with (at_builtin; refine wpList_append_lies _ rfl (.tmp 67) (.tmp 69) 29 rfl 0 40 i0 (.agg #[.int .i64 0, .int .i64 0, .int .i64 0, .int .i64 0, .int .i64 0, .int .i64 0, .int .i64 0]) 7 56 Tryz.underlying29 hi hz0 hz1 hz2 rfl (by decide) _ new.length _ rfl HW.out ⟨w6.heap.size, 0, none⟩ 1 1 (enCells ⟨⟨q, time, kind, key, val, sl⟩, res⟩) rfl rfl HNW.out HON.out (by decide) HMX.out HM4.out (Nat.zero_le _) _ rfl ?_)
        intro g cap9 w9 hown hgrow hat hlt5
        have h6 := ((HD.out.growAt 3 rfl hgrow (by simpa using hat) hown).dropAt 1 (by simp)).dropAt 1 (by simp)
        have HZ : Hid (RunMk B w0 ss p n s lv es (.slice (some ⟨b, o, none⟩) bs.length cap) bs (k + 1) (.slice (some ⟨g, 0, none⟩) (new.length + 1) cap9) w9) := Lib.hid ⟨_, by rw [HN2.out]; exact HC6.out, by
          rw [HN2.out]
          dsimp only
          rw [← enR_len (.slice (some ⟨g, 0, none⟩) (new.length + 1) cap9) (new ++ [(⟨⟨q, time, kind, key, val, sl⟩, res⟩ : En)]) (new.length + 1) (ensCells new ++ enCells ⟨⟨q, time, kind, key, val, sl⟩, res⟩) (by simp) (by rw [ens_append, ens_1])]
          exact h6.swap⟩
        clear hown hgrow hat hlt5 h6 HD HW HNW HON HMX HM4 HV r0 r1 r2 r3 r4 r5 r6
        go_wp2_with fail
        go_roundw
        case rel => exact ⟨k + 1, _, by omega, by go_num, rfl, HZ⟩
        case measure => simp [intOf]; omega
    · have hkl : k = bs.length := by omega
      subst hkl
      have hkI : decide ((bs.length : Int) < (bs.length : Int)) = false := by simp
      obtain ⟨c, hc, ho⟩ := HM.out
      have hl1 := HNF.out bs.length
      rw [List.take_length] at hc ho hl1
      obtain ⟨new, s1, hrun⟩ : ∃ new s1, runR n s bs = (new, s1) := ⟨_, _, rfl⟩
      have HRUN := Lib.hid hrun
      rw [hrun] at hc ho hl1
      simp only at hc ho hl1
      clear hrun HNF HM
      have HO := Lib.hid ho
      have HC := Lib.hid hc
      obtain ⟨-, hcell, hfz⟩ := funB_at (ho.get 1 rfl)
      have x137 := hcell 137 (by omega)
      rw [hc.l] at x137
      have HR := Lib.hid (own_ens (v := lv) (E := 40) (l := es) ho 2 rfl)
      have HM1 : Hid (es.length + new.length ≤ maxLen) := Lib.hid (by unfold maxLen; omega)
      have HM2 : Hid ((es.length + new.length) * 56 ≤ 140737488355328) := Lib.hid (by omega)
      clear hcell hfz ho hc
      go_wp2_with (at_builtin; refine wpList_fresh rfl (.tmp 75) 29 rfl 40 i0 (.agg #[.int .i64 0, .int .i64 0, .int .i64 0, .int .i64 0, .int .i64 0, .int .i64 0, .int .i64 0]) 7 56 Tryz.underlying29 hi hz0 hz1 hz2 rfl (by decide) _ _ _ rfl HR.out (ens_one es) (by omega) ?_)
      intro v3 w3 ho3 hu3
      have H3 := Lib.hid (HO.out.row1 hu3 ho3)
      have RV := Lib.hid (own_ens (v := vo) (E := 40) (l := new) H3.out 1 rfl)
      clear ho3 hu3 x137 HR HO
      go_wp2_with (at_builtin; refine wpList_append_row rfl (.tmp 76) (.tmp 77) 29 rfl 40 i0 (.agg #[.int .i64 0, .int .i64 0, .int .i64 0, .int .i64 0, .int .i64 0, .int .i64 0, .int .i64 0]) 7 56 Tryz.underlying29 hi hz0 hz1 hz2 rfl (by decide) _ es.length _ rfl H3.out _ new.length _ rfl RV.out (ens_one new) HM1.out HM2.out ?_)
      intro v4 w4 h4
      obtain ⟨a4, c4, rfl⟩ := row_shape (ownR_owns h4.head)
      have H4 := Lib.hid h4
      obtain ⟨-, hcell, hfz⟩ := funB_at (h4.get 2 rfl)
      have x137 := hcell 137 (by omega)
      have z137 := hfz 137
      clear h4 hcell hfz H3 RV
      go_wp2_with fail
      go_ret
      have h5 := (funB_put H4.out.rot 137 (.slice a4 (es.length + new.length) c4)).dropAt 3 (by simp)
      have e1 : ownR 40 7 (.slice a4 (es.length + new.length) c4) (es.length + new.length) (ensCells es ++ ensCells new) = enR (.slice a4 (es.length + new.length) c4) (es ++ new) := enR_len _ _ _ _ (by simp) (ens_append _ _).symm
      rw [e1] at h5
      refine ⟨vo, setF c 137 (.slice a4 (es.length + new.length) c4), .slice a4 (es.length + new.length) c4, rfl, ?_, ?_⟩
      · rw [HRUN.out]; exact HC.out.log _
      · rw [HRUN.out]; exact h5

end
end Go.Proofs.YtimdphlolmbhnaaGreat
