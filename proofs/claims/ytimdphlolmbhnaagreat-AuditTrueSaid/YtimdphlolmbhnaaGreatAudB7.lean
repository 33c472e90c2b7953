/- Parts of the proof, one behind the other. -/
import Derived.Test.YtimdphlolmbhnaaGreatAudB6

/- Once: audit's and the document's. -/
namespace Go.Proofs.YtimdphlolmbhnaaGreat
open Go.RowKit Go.Heap

def BadTwo (l : List En) (j i : Nat) : Prop := ∃ (hj : j < l.length) (hi : i < l.length), l[j].rq.client = l[i].rq.client ∧ l[i].rq.time ≤ l[j].rq.time
def OnceTo (l : List En) (k : Nat) : Prop := ∀ i, i < k → ∀ j, j < i → ¬ BadTwo l j i
def OnceRow (l : List En) (k m : Nat) : Prop := ∀ j, j < m → ¬ BadTwo l j k
theorem OnceTo.next {l : List En} {k : Nat} (h : OnceTo l k) (h2 : OnceRow l k k) : OnceTo l (k + 1) := fun i hi j hj => by
  by_cases e : i = k
  · subst e; exact h2 j hj
  · exact h i (by omega) j hj
theorem OnceRow.next {l : List En} {k m : Nat} (h : OnceRow l k m) (h2 : ¬ BadTwo l m k) : OnceRow l k (m + 1) := fun j hj => by
  by_cases e : j = m
  · subst e; exact h2
  · exact h j (by omega)
theorem once_true {l : List En} (h : OnceTo l l.length) : decide (OnceP l) = true := by
  rw [decide_eq_true_iff, OnceP, List.pairwise_iff_getElem]
  intro i j hi hj hij c
  exact h j hj i hij ⟨hi, hj, c⟩
theorem once_false {l : List En} {j i : Nat} (hij : j < i) (h : BadTwo l j i) : decide (OnceP l) = false := by
  rw [decide_eq_false_iff_not, OnceP, List.pairwise_iff_getElem]
  intro c
  obtain ⟨hj, hi, h⟩ := h
  exact c j i hj hi hij h

set_option maxHeartbeats 1000000 in
theorem once_any (v : Value) (l : List En) (w : World) (hn : l.length ≤ 100000) (h : Ens w v l) :
    Calls Tryz.prog 14 #[v] w fun e w' => e = .returned (.bool (decide (OnceP l))) ∧ Upd [] w w' := by
  obtain ⟨ao, cap, rfl, h1, h2, h3, h4, h5⟩ := h
  clear h2 h3 h4
  have H5 := Lib.hid h5
  clear h5
  have hcap : (l.length : Int) ≤ (cap : Int) := by omega
  clear h1
  go_enter Tryz.func14, Tryz.ntmps14
  go_wp2_with fail
  go_loopw [9] (fun i wr => ∃ k : Nat, k ≤ l.length ∧ i = .int .i64 k ∧ Hid (OnceTo l k) ∧ Hid (Own w.heap.size w wr [])) (fun i _ => l.length - (intOf i).toNat)
  case atStart => exact ⟨0, by omega, rfl, Lib.hid (fun i hi => by omega), Lib.hid (Own.start (Below.refl _ _) (Nat.le_refl _))⟩
  case round =>
    obtain ⟨k, hk, rfl, HK, H1⟩ := hrel
    by_cases hlt : k < l.length
    · have hkI : (k : Int) < (l.length : Int) := by omega
      obtain ⟨b, o, rfl, hbs, hc⟩ := H5.out (by omega)
      obtain ⟨q0, q1, q2, q3, q4, q5, q6⟩ := ens_cells (cells_below H1.out.below hbs hc) k l[k] (by simp)
      have HCC := Lib.hid hc
      have hz := H1.out.below.size
      clear hc
      have H2 := Lib.hid (H1.out.box (enBox l[k]))
      go_upto_region 4 with fail
      generalize wr.heap.size = e0 at *
      generalize wr.alloc _ = w2 at *
      clear q0 q1 q2 q3 q4 q5 q6 H1
      have hkc : (k : Int) ≤ (cap : Int) := by omega
      go_wp2_with fail
      go_loopw [18] (fun i wr => ∃ m : Nat, m ≤ k ∧ i = .int .i64 m ∧ Hid (OnceRow l k m) ∧ Hid (Own w.heap.size w wr [blk e0 (enBox l[k])])) (fun i _ => k - (intOf i).toNat)
      case atStart => exact ⟨0, by omega, rfl, Lib.hid (fun i hi => by omega), H2⟩
      case round =>
        clear H2
        obtain ⟨m, hm, rfl, HR, H2⟩ := hrel
        by_cases hlm : m < k
        · have hmI : (m : Int) < (k : Int) := by omega
          have hml : m < l.length := by omega
          obtain ⟨q0, q1, q2, q3, q4, q5, q6⟩ := ens_cells (cells_below H2.out.below hbs HCC.out) m l[m] (by simp)
          have hbx := H2.out.blk_out
          obtain ⟨p0, p1, -, -, -, -, -⟩ := en_cells hbx
          have hlb := block_lt hbx
          clear hbx
          have hne : e0 ≠ wr.heap.size := by omega
          by_cases hc1 : l[m].rq.client = l[k].rq.client
          · have hcb : (l[m].rq.client == l[k].rq.client) = true := by simp [hc1]
            have HC1 := Lib.hid hc1
            clear hc1
            by_cases hc2 : l[k].rq.time ≤ l[m].rq.time
            · have HC2 := Lib.hid hc2
              go_wp2_with fail
              go_ret
              exact ⟨ret_bool (once_false hlm ⟨hml, hlt, HC1.out, HC2.out⟩).symm, Upd.of_below (H2.out.alloc _).below⟩
            · have HC2 := Lib.hid hc2
              go_wp2_with fail
              go_roundw
              case rel => exact ⟨m + 1, by omega, by go_num, Lib.hid (HR.out.next (fun ⟨_, _, c⟩ => by have h1 := HC2.out; have h2 := c.2; omega)), Lib.hid (H2.out.alloc _)⟩
              case measure => simp [intOf]; omega
          · have hcb : (l[m].rq.client == l[k].rq.client) = false := by simp [hc1]
            go_wp2_with fail
            go_roundw
            case rel => exact ⟨m + 1, by omega, by go_num, Lib.hid (HR.out.next (fun ⟨_, _, c⟩ => hc1 c.1)), Lib.hid (H2.out.alloc _)⟩
            case measure => simp [intOf]; omega
        · have hmk : m = k := by omega
          subst hmk
          go_wp2_with fail
          go_roundw
          case rel => exact ⟨m + 1, by omega, by go_num, Lib.hid (HK.out.next HR.out), Lib.hid H2.out.drop⟩
          case measure => simp [intOf]; omega
    · have hkl : k = l.length := by omega
      subst hkl
      go_wp2_with fail
      go_ret
      exact ⟨ret_bool (once_true HK.out).symm, Upd.of_below H1.out.below⟩

set_option maxHeartbeats 1000000 in
theorem ronce_any (v : Value) (l : List En) (w : World) (hn : l.length ≤ 100000) (h : Ens w v l) :
    Calls Tryz.prog 17 #[v] w fun e w' => e = .returned (.bool (decide (OnceP l))) ∧ Upd [] w w' := by
  obtain ⟨ao, cap, rfl, h1, h2, h3, h4, h5⟩ := h
  clear h1 h2 h3 h4
  have H5 := Lib.hid h5
  clear h5
  go_enter Tryz.func17, Tryz.ntmps17
  go_wp2_with fail
  go_loopw [7] (fun i wr => ∃ k : Nat, k ≤ l.length ∧ i = .int .i64 k ∧ Hid (OnceTo l k) ∧ Hid (Own w.heap.size w wr [])) (fun i _ => l.length - (intOf i).toNat)
  case atStart => exact ⟨0, by omega, rfl, Lib.hid (fun i hi => by omega), Lib.hid (Own.start (Below.refl _ _) (Nat.le_refl _))⟩
  case round =>
    obtain ⟨k, hk, rfl, HK, H1⟩ := hrel
    by_cases hlt : k < l.length
    · have hkI : (k : Int) < (l.length : Int) := by omega
      obtain ⟨b, o, rfl, hbs, hc⟩ := H5.out (by omega)
      have HCC := Lib.hid hc
      clear hc
      go_wp2_with fail
      go_loopw [4] (fun i wr => ∃ m : Nat, m ≤ k ∧ i = .int .i64 m ∧ Hid (OnceRow l k m) ∧ Hid (Own w.heap.size w wr [])) (fun i _ => k - (intOf i).toNat)
      case atStart => exact ⟨0, by omega, rfl, Lib.hid (fun i hi => by omega), H1⟩
      case round =>
        clear H1
        obtain ⟨m, hm, rfl, HR, H1⟩ := hrel
        by_cases hlm : m < k
        · have hmI : (m : Int) < (k : Int) := by omega
          have hml : m < l.length := by omega
          have hmlI : (m : Int) < (l.length : Int) := by omega
          obtain ⟨q0, q1, -, -, -, -, -⟩ := ens_cells (cells_below H1.out.below hbs HCC.out) m l[m] (by simp)
          obtain ⟨p0, p1, -, -, -, -, -⟩ := ens_cells (cells_below H1.out.below hbs HCC.out) k l[k] (by simp)
          by_cases hc1 : l[m].rq.client = l[k].rq.client
          · have hcb : (l[m].rq.client == l[k].rq.client) = true := by simp [hc1]
            have HC1 := Lib.hid hc1
            clear hc1
            by_cases hc2 : l[k].rq.time ≤ l[m].rq.time
            · have HC2 := Lib.hid hc2
              go_wp2_with fail
              go_quiet (fail)
              go_wp2_with fail
              go_ret
              exact ⟨ret_bool (once_false hlm ⟨hml, hlt, HC1.out, HC2.out⟩).symm, Upd.of_below (below_drewN H1.out.below _)⟩
            · have HC2 := Lib.hid hc2
              go_wp2_with fail
              go_quiet (fail)
              go_wp2_with fail
              go_roundw
              case rel => exact ⟨m + 1, by omega, by go_num, Lib.hid (HR.out.next (fun ⟨_, _, c⟩ => by have h1 := HC2.out; have h2 := c.2; omega)), Lib.hid (H1.out.upd0 ((Upd.refl _ _).drewN _))⟩
              case measure => simp [intOf]; omega
          · have hcb : (l[m].rq.client == l[k].rq.client) = false := by simp [hc1]
            go_wp2_with fail
            go_quiet (fail)
            go_wp2_with fail
            go_roundw
            case rel => exact ⟨m + 1, by omega, by go_num, Lib.hid (HR.out.next (fun ⟨_, _, c⟩ => hc1 c.1)), Lib.hid (H1.out.upd0 ((Upd.refl _ _).drewN _))⟩
            case measure => simp [intOf]; omega
        · have hmk : m = k := by omega
          subst hmk
          have hmI : decide ((m : Int) < (m : Int)) = false := by simp
          go_wp2_with fail
          go_roundw
          case rel => exact ⟨m + 1, by omega, by go_num, Lib.hid (HK.out.next HR.out), H1⟩
          case measure => simp [intOf]; omega
    · have hkl : k = l.length := by omega
      subst hkl
      go_wp2_with fail
      go_ret
      exact ⟨ret_bool (once_true HK.out).symm, Upd.of_below H1.out.below⟩

end Go.Proofs.YtimdphlolmbhnaaGreat

/- Given: audit's and the document's. -/
namespace Go.Proofs.YtimdphlolmbhnaaGreat
open Go.RowKit Go.Heap

set_option maxHeartbeats 1000000 in
set_option maxRecDepth 100000 in
theorem rhas_any (v : Value) (l : List Rq) (r : Rq) (w : World) (hn : l.length ≤ 100000) (h : Bat w v l) :
    Calls Tryz.prog 30 #[v, .agg #[.int .i64 r.client, .int .i64 r.time, .int .i64 r.kind, .int .i64 r.key, .int .i64 r.val, .int .i64 r.sl]] w fun e w' => e = .returned (.bool (decide (r ∈ l))) ∧ Upd [] w w' := by
  obtain ⟨ao, cap, rfl, h1, h2, h3, h4, h5⟩ := h
  clear h1 h2 h3 h4
  have H5 := Lib.hid h5
  clear h5
  have H0 := Lib.hid ((Own.start (Below.refl w.heap.size w) (Nat.le_refl _)).box (rqBox r))
  go_enter Tryz.func30, Tryz.ntmps30
  go_wp2_with fail
  go_loopw [5] (fun i wr => ∃ k : Nat, k ≤ l.length ∧ i = .int .i64 k ∧ Hid (NoneIn r l k) ∧ Hid (Own w.heap.size w wr [blk w.heap.size (rqBox r)])) (fun i _ => l.length - (intOf i).toNat)
  case atStart => exact ⟨0, by omega, rfl, Lib.hid (by intro j _ hj; omega), H0⟩
  case round =>
    clear H0
    obtain ⟨k, hk, rfl, HN, H1⟩ := hrel
    by_cases hlt : k < l.length
    · have hkI : (k : Int) < (l.length : Int) := by omega
      obtain ⟨b, o, rfl, hbs, hc⟩ := H5.out (by omega)
      obtain ⟨q0, q1, q2, q3, q4, q5⟩ := bat_cells (cells_below H1.out.below hbs hc) k l[k] (by simp)
      clear hc
      have hbx := H1.out.blk_out
      obtain ⟨p0, p1, p2, p3, p4, p5⟩ := rq_cells hbx
      have hlb := block_lt hbx
      have hz := H1.out.below.size
      clear hbx
      by_cases he : l[k] = r
      · have heq : ∀ wx, (Op.equalIn 10000 38 (rqAgg l[k]) (rqAgg r)).run Tryz.prog wx = .ok true wx := fun wx => by rw [run_equal_req]; simp [he]
        have HE := Lib.hid he
        clear he
        unfold rqAgg at heq
        have hgd := Tryz.guardReq
        go_wp2_with fail
        go_quiet (fail)
        go_wp2_with fail
        go_ret
        refine ⟨ret_bool ?_, Upd.of_below (H1.out.upd0 ((Upd.refl _ _).drewN _)).below⟩
        symm
        rw [decide_eq_true_iff, ← HE.out]
        exact List.getElem_mem hlt
      · have heq : ∀ wx, (Op.equalIn 10000 38 (rqAgg l[k]) (rqAgg r)).run Tryz.prog wx = .ok false wx := fun wx => by rw [run_equal_req]; simp [he]
        have HE := Lib.hid he
        clear he
        unfold rqAgg at heq
        have hgd := Tryz.guardReq
        go_wp2_with fail
        go_quiet (fail)
        go_wp2_with fail
        go_roundw
        case rel =>
          refine ⟨k + 1, by omega, by go_num, Lib.hid (fun j hj hjk => ?_), Lib.hid (H1.out.upd0 ((Upd.refl _ _).drewN _))⟩
          by_cases e : j = k
          · subst e; exact HE.out
          · exact HN.out j hj (by omega)
        case measure => simp [intOf]; omega
    · have hkl : k = l.length := by omega
      subst hkl
      have hkI : ¬ (l.length : Int) < (l.length : Int) := by omega
      go_wp2_with fail
      go_ret
      refine ⟨ret_bool ?_, Upd.of_below H1.out.below⟩
      symm
      rw [decide_eq_false_iff_not]
      intro hm
      obtain ⟨j, hj, e⟩ := List.getElem_of_mem hm
      exact HN.out j hj hj e

def GivenTo (l : List En) (c : Int) (is : List Rq) (k : Nat) : Prop := ∀ j (hj : j < l.length), j < k → l[j].rq.client = c → l[j].rq ∈ is
theorem GivenTo.next {l : List En} {c : Int} {is : List Rq} {k : Nat} (h : GivenTo l c is k) (h2 : ∀ (hk : k < l.length), l[k].rq.client = c → l[k].rq ∈ is) : GivenTo l c is (k + 1) := fun j hj hjk hc => by
  by_cases e : j = k
  · subst e; exact h2 hj hc
  · exact h j hj (by omega) hc
theorem given_true {l : List En} {c : Int} {is : List Rq} (h : GivenTo l c is l.length) : givenB l c is = true := by
  unfold givenB
  rw [List.all_eq_true]
  intro e he
  obtain ⟨j, hj, rfl⟩ := List.getElem_of_mem he
  by_cases hc : l[j].rq.client = c
  · simp [h j hj hj hc]
  · simp [hc]
theorem given_false {l : List En} {c : Int} {is : List Rq} {k : Nat} (hk : k < l.length) (hc : l[k].rq.client = c) (hn : l[k].rq ∉ is) : givenB l c is = false := by
  subst hc
  exact given_not hk hn

set_option maxHeartbeats 1000000 in
theorem given_any (v : Value) (l : List En) (c : Int) (u : Value) (is : List Rq) (w : World) (hn : l.length ≤ 100000) (hm : is.length ≤ 100000) (h : Ens w v l) (h' : Bat w u is) :
    Calls Tryz.prog 13 #[v, .int .i64 c, u] w fun e w' => e = .returned (.bool (givenB l c is)) ∧ Upd [] w w' := by
  obtain ⟨ao, cap, rfl, h1, h2, h3, h4, h5⟩ := h
  clear h1 h2 h3 h4
  have H5 := Lib.hid h5
  have HB := Lib.hid h'
  clear h5 h'
  go_enter Tryz.func13, Tryz.ntmps13
  go_wp2_with fail
  go_loopw [11] (fun i wr => ∃ k : Nat, k ≤ l.length ∧ i = .int .i64 k ∧ Hid (GivenTo l c is k) ∧ Hid (Own w.heap.size w wr [])) (fun i _ => l.length - (intOf i).toNat)
  case atStart => exact ⟨0, by omega, rfl, Lib.hid (fun i hi hj => by omega), Lib.hid (Own.start (Below.refl _ _) (Nat.le_refl _))⟩
  case round =>
    obtain ⟨k, hk, rfl, HK, H1⟩ := hrel
    by_cases hlt : k < l.length
    · have hkI : (k : Int) < (l.length : Int) := by omega
      obtain ⟨b, o, rfl, hbs, hc⟩ := H5.out (by omega)
      obtain ⟨q0, q1, q2, q3, q4, q5, q6⟩ := ens_cells (cells_below H1.out.below hbs hc) k l[k] (by simp)
      have hz := H1.out.below.size
      clear hc
      have H2 := Lib.hid (H1.out.box (enBox l[k]))
      have HB2 := Lib.hid (HB.out.upd (Upd.of_below (M := []) H2.out.below) (by simp))
      go_upto_region 4 with fail
      generalize wr.heap.size = e0 at *
      generalize wr.alloc _ = w2 at *
      clear q0 q1 q2 q3 q4 q5 q6 H1
      obtain ⟨p0, p1, p2, p3, p4, p5, -⟩ := en_cells H2.out.blk_out
      by_cases hc1 : l[k].rq.client = c
      · have hcb : (l[k].rq.client == c) = true := by simp [hc1]
        have HC1 := Lib.hid hc1
        clear hc1
        have HC := Lib.hid (has_any u is l[k].rq w2 hm HB2.out)
        go_wp2_with fail
        refine HC.out.mono ?_
        rintro e w3 ⟨rfl, hu⟩
        have H3 := Lib.hid (H2.out.upd0 hu)
        clear hu HC
        by_cases hin : l[k].rq ∈ is
        · have hd : decide (l[k].rq ∈ is) = true := decide_eq_true hin
          have HIN := Lib.hid hin
          rw [hd]
          clear hin hd
          go_wp2_with fail
          go_roundw
          case rel => exact ⟨k + 1, by omega, by go_num, Lib.hid (HK.out.next (fun _ _ => HIN.out)), Lib.hid H3.out.drop⟩
          case measure => simp [intOf]; omega
        · have hd : decide (l[k].rq ∈ is) = false := decide_eq_false hin
          have HIN := Lib.hid hin
          rw [hd]
          clear hin hd
          go_wp2_with fail
          go_ret
          exact ⟨ret_bool (given_false hlt HC1.out HIN.out).symm, Upd.of_below H3.out.below⟩
      · have hcb : (l[k].rq.client == c) = false := by simp [hc1]
        go_wp2_with fail
        go_roundw
        case rel => exact ⟨k + 1, by omega, by go_num, Lib.hid (HK.out.next (fun _ h => absurd h hc1)), Lib.hid H2.out.drop⟩
        case measure => simp [intOf]; omega
    · have hkl : k = l.length := by omega
      subst hkl
      go_wp2_with fail
      go_ret
      exact ⟨ret_bool (given_true HK.out).symm, Upd.of_below H1.out.below⟩

set_option maxHeartbeats 1000000 in
theorem rgiven_any (v : Value) (l : List En) (c : Int) (u : Value) (is : List Rq) (w : World) (hn : l.length ≤ 100000) (hm : is.length ≤ 100000) (h : Ens w v l) (h' : Bat w u is) :
    Calls Tryz.prog 20 #[v, .int .i64 c, u] w fun e w' => e = .returned (.bool (givenB l c is)) ∧ Upd [] w w' := by
  obtain ⟨ao, cap, rfl, h1, h2, h3, h4, h5⟩ := h
  clear h1 h2 h3 h4
  have H5 := Lib.hid h5
  have HB := Lib.hid h'
  clear h5 h'
  go_enter Tryz.func20, Tryz.ntmps20
  go_wp2_with fail
  go_loopw [10] (fun i wr => ∃ k : Nat, k ≤ l.length ∧ i = .int .i64 k ∧ Hid (GivenTo l c is k) ∧ Hid (Own w.heap.size w wr [])) (fun i _ => l.length - (intOf i).toNat)
  case atStart => exact ⟨0, by omega, rfl, Lib.hid (fun i hi hj => by omega), Lib.hid (Own.start (Below.refl _ _) (Nat.le_refl _))⟩
  case round =>
    obtain ⟨k, hk, rfl, HK, H1⟩ := hrel
    by_cases hlt : k < l.length
    · have hkI : (k : Int) < (l.length : Int) := by omega
      obtain ⟨b, o, rfl, hbs, hc⟩ := H5.out (by omega)
      obtain ⟨q0, q1, q2, q3, q4, q5, q6⟩ := ens_cells (cells_below H1.out.below hbs hc) k l[k] (by simp)
      clear hc
      have HB2 := Lib.hid (HB.out.upd (Upd.of_below (M := []) H1.out.below) (by simp))
      by_cases hc1 : l[k].rq.client = c
      · have hcb : (l[k].rq.client == c) = true := by simp [hc1]
        have HC1 := Lib.hid hc1
        clear hc1
        have HC := Lib.hid (rhas_any u is l[k].rq wr hm HB2.out)
        go_wp2_with fail
        refine HC.out.mono ?_
        rintro e w3 ⟨rfl, hu⟩
        have H3 := Lib.hid (H1.out.upd0 hu)
        clear hu HC
        by_cases hin : l[k].rq ∈ is
        · have hd : decide (l[k].rq ∈ is) = true := decide_eq_true hin
          have HIN := Lib.hid hin
          rw [hd]
          clear hin hd
          go_wp2_with fail
          go_roundw
          case rel => exact ⟨k + 1, by omega, by go_num, Lib.hid (HK.out.next (fun _ _ => HIN.out)), H3⟩
          case measure => simp [intOf]; omega
        · have hd : decide (l[k].rq ∈ is) = false := decide_eq_false hin
          have HIN := Lib.hid hin
          rw [hd]
          clear hin hd
          go_wp2_with fail
          go_ret
          exact ⟨ret_bool (given_false hlt HC1.out HIN.out).symm, Upd.of_below H3.out.below⟩
      · have hcb : (l[k].rq.client == c) = false := by simp [hc1]
        go_wp2_with fail
        go_roundw
        case rel => exact ⟨k + 1, by omega, by go_num, Lib.hid (HK.out.next (fun _ h => absurd h hc1)), H1⟩
        case measure => simp [intOf]; omega
    · have hkl : k = l.length := by omega
      subst hkl
      go_wp2_with fail
      go_ret
      exact ⟨ret_bool (given_true HK.out).symm, Upd.of_below H1.out.below⟩

end Go.Proofs.YtimdphlolmbhnaaGreat

/- Kept: audit's and the document's. -/
namespace Go.Proofs.YtimdphlolmbhnaaGreat
open Go.RowKit Go.Heap

def NoneTo (l : List En) (a : En) (m : Nat) : Prop := ∀ j (hj : j < l.length), j < m → sameId a l[j] = false
theorem NoneTo.next {l : List En} {a : En} {k : Nat} (h : NoneTo l a k) (h2 : ∀ (hk : k < l.length), sameId a l[k] = false) : NoneTo l a (k + 1) := fun j hj hjk => by
  by_cases e : j = k
  · subst e; exact h2 hj
  · exact h j hj (by omega)
theorem find_none {l : List En} {a : En} (h : NoneTo l a l.length) : findE l a = none := by
  unfold findE
  rw [List.findIdx?_eq_none_iff]
  intro e he
  obtain ⟨j, hj, rfl⟩ := List.getElem_of_mem he
  exact h j hj hj
theorem find_some {l : List En} {a : En} {k : Nat} (hk : k < l.length) (h : NoneTo l a k) (hs : sameId a l[k] = true) : findE l a = some k := by
  unfold findE
  rw [List.findIdx?_eq_some_iff_getElem]
  exact ⟨hk, hs, fun j hj => by rw [h j (by omega) hj]; simp⟩
theorem kept_at_none {l ac : List En} {k f : Nat} (hk : k < ac.length) (h : findE l ac[k] = none) : keptB l f (ac.drop k) = keptB l f (ac.drop (k + 1)) := by
  rw [List.drop_eq_getElem_cons hk, keptB_cons, h]
theorem kept_at_good {l ac : List En} {k f m : Nat} (hk : k < ac.length) (hm : m < l.length) (h : findE l ac[k] = some m) (he : l[m] = ac[k]) (hf : f ≤ m) : keptB l f (ac.drop k) = keptB l (m + 1) (ac.drop (k + 1)) := by
  rw [List.drop_eq_getElem_cons hk, keptB_cons, h]
  simp only [List.getElem?_eq_getElem hm, he, true_and, hf, if_true]
theorem kept_at_bad {l ac : List En} {k f m : Nat} (hk : k < ac.length) (hm : m < l.length) (h : findE l ac[k] = some m) (he : l[m] ≠ ac[k] ∨ m < f) : keptB l f (ac.drop k) = false := by
  rw [List.drop_eq_getElem_cons hk, keptB_cons, h]
  simp only [List.getElem?_eq_getElem hm, Option.some.injEq]
  rw [if_neg (fun c => by rcases he with he | he; exact he c.1; omega)]
theorem sameId_true {a e : En} (h1 : e.rq.client = a.rq.client) (h2 : e.rq.time = a.rq.time) : sameId a e = true := decide_eq_true ⟨h1, h2⟩
theorem sameId_no1 {a e : En} (h1 : e.rq.client ≠ a.rq.client) : sameId a e = false := decide_eq_false (fun c => h1 c.1)
theorem sameId_no2 {a e : En} (h1 : e.rq.time ≠ a.rq.time) : sameId a e = false := decide_eq_false (fun c => h1 c.2)

set_option maxHeartbeats 2000000 in
set_option maxRecDepth 100000 in
theorem kept_any (v u : Value) (l ac : List En) (w : World) (hn : l.length ≤ 100000) (hm : ac.length ≤ 100000) (h : Ens w v l) (h' : Ens w u ac) :
    Calls Tryz.prog 12 #[v, u] w fun e w' => e = .returned (.bool (keptB l 0 ac)) ∧ Upd [] w w' := by
  obtain ⟨ao, cap, rfl, h1, h2, h3, h4, h5⟩ := h
  obtain ⟨bo, cap', rfl, k1, k2, k3, k4, k5⟩ := h'
  clear h1 h2 h3 h4 k1 k2 k3 k4
  have H5 := Lib.hid h5
  have K5 := Lib.hid k5
  clear h5 k5
  go_enter Tryz.func12, Tryz.ntmps12
  go_wp2_with fail
  go_loopw [5, 12] (fun f i wr => ∃ fr k : Nat, k ≤ ac.length ∧ fr ≤ l.length ∧ i = .int .i64 k ∧ f = .int .i64 fr ∧ Hid (keptB l fr (ac.drop k) = keptB l 0 ac) ∧ Hid (Own w.heap.size w wr [])) (fun _ i _ => ac.length - (intOf i).toNat)
  case atStart => exact ⟨0, 0, by omega, by omega, rfl, rfl, Lib.hid rfl, Lib.hid (Own.start (Below.refl _ _) (Nat.le_refl _))⟩
  case round =>
    obtain ⟨fr, k, hk, hfr, rfl, rfl, HK, H1⟩ := hrel
    by_cases hlt : k < ac.length
    · have hkI : (k : Int) < (ac.length : Int) := by omega
      obtain ⟨b', o', rfl, hbs', hc'⟩ := K5.out (by omega)
      obtain ⟨q0, q1, q2, q3, q4, q5, q6⟩ := ens_cells (cells_below H1.out.below hbs' hc') k ac[k] (by simp)
      have hz := H1.out.below.size
      clear hc'
      have H2 := Lib.hid (H1.out.box (enBox ac[k]))
      go_upto_region 5 with fail
      generalize wr.heap.size = e0 at *
      generalize wr.alloc _ = w2 at *
      clear q0 q1 q2 q3 q4 q5 q6 H1
      go_wp2_with fail
      go_loopw [5, 18] (fun f i wr => ∃ m : Nat, m ≤ l.length ∧ f = .int .i64 fr ∧ i = .int .i64 m ∧ Hid (NoneTo l ac[k] m) ∧ Hid (Own w.heap.size w wr [blk e0 (enBox ac[k])])) (fun _ i _ => l.length - (intOf i).toNat)
      case atStart => exact ⟨0, by omega, rfl, rfl, Lib.hid (fun i hi hj => by omega), H2⟩
      case round =>
        clear H2
        obtain ⟨m, hml, rfl, rfl, HN, H2⟩ := hrel
        by_cases hlm : m < l.length
        · have hmI : (m : Int) < (l.length : Int) := by omega
          obtain ⟨b, o, rfl, hbs, hc⟩ := H5.out (by omega)
          obtain ⟨q0, q1, q2, q3, q4, q5, q6⟩ := ens_cells (cells_below H2.out.below hbs hc) m l[m] (by simp)
          clear hc
          have hlb := block_lt H2.out.blk_out
          have hne : e0 ≠ wr.heap.size := by omega
          have H3 := Lib.hid (H2.out.box (enBox l[m]))
          go_upto_region 8 with fail
          generalize wr.heap.size = e1 at *
          generalize wr.alloc _ = w3 at *
          clear q0 q1 q2 q3 q4 q5 q6 H2
          obtain ⟨p0, p1, p2, p3, p4, p5, p6⟩ := en_cells H3.out.blk_out
          obtain ⟨r0, r1, r2, r3, r4, r5, r6⟩ := en_cells (H3.out.blkAt 1 rfl)
          by_cases hc1 : l[m].rq.client = ac[k].rq.client
          · have hcb : (l[m].rq.client != ac[k].rq.client) = false := by simp [hc1]
            have HC1 := Lib.hid hc1
            clear hc1
            by_cases hc2 : l[m].rq.time = ac[k].rq.time
            · have hcb2 : (l[m].rq.time != ac[k].rq.time) = false := by simp [hc2]
              have HF := Lib.hid (find_some hlm HN.out (sameId_true HC1.out hc2))
              clear hc2 HN
              by_cases he : l[m] = ac[k]
              · have heq : ∀ wx, (Op.equalIn 10000 40 (enAgg l[m]) (enAgg ac[k])).run Tryz.prog wx = .ok true wx := fun wx => by rw [run_equal_en]; simp [he]
                have HE := Lib.hid he
                clear he
                have hgd := Tryz.guardEn
                by_cases hf : fr ≤ m
                · have hfI : decide ((m : Int) < (fr : Int)) = false := by simp; omega
                  go_wp2_with fail
                  go_roundw
                  case rel => exact ⟨m + 1, k + 1, by omega, by omega, by go_num, by go_num, Lib.hid ((kept_at_good hlt hlm HF.out HE.out hf).symm.trans HK.out), Lib.hid H3.out.drop.drop⟩
                  case measure => simp [intOf]; omega
                · have hfI : (m : Int) < (fr : Int) := by omega
                  go_wp2_with fail
                  go_ret
                  exact ⟨ret_bool ((kept_at_bad hlt hlm HF.out (.inr (by omega))).symm.trans HK.out), Upd.of_below H3.out.below⟩
              · have heq : ∀ wx, (Op.equalIn 10000 40 (enAgg l[m]) (enAgg ac[k])).run Tryz.prog wx = .ok false wx := fun wx => by rw [run_equal_en]; simp [he]
                have HE := Lib.hid he
                clear he
                have hgd := Tryz.guardEn
                go_wp2_with fail
                go_ret
                exact ⟨ret_bool ((kept_at_bad hlt hlm HF.out (.inl HE.out)).symm.trans HK.out), Upd.of_below H3.out.below⟩
            · have hcb2 : (l[m].rq.time != ac[k].rq.time) = true := by simp [hc2]
              have HC2 := Lib.hid hc2
              clear hc2
              go_wp2_with fail
              go_roundw
              case rel => exact ⟨m + 1, by omega, rfl, by go_num, Lib.hid (HN.out.next (fun _ => sameId_no2 HC2.out)), Lib.hid H3.out.drop⟩
              case measure => simp [intOf]; omega
          · have hcb : (l[m].rq.client != ac[k].rq.client) = true := by simp [hc1]
            have HC1 := Lib.hid hc1
            clear hc1
            go_wp2_with fail
            go_roundw
            case rel => exact ⟨m + 1, by omega, rfl, by go_num, Lib.hid (HN.out.next (fun _ => sameId_no1 HC1.out)), Lib.hid H3.out.drop⟩
            case measure => simp [intOf]; omega
        · have hml2 : m = l.length := by omega
          subst hml2
          go_wp2_with fail
          go_roundw
          case rel => exact ⟨fr, k + 1, by omega, by omega, by go_num, rfl, Lib.hid ((kept_at_none hlt (find_none HN.out)).symm.trans HK.out), Lib.hid H2.out.drop⟩
          case measure => simp [intOf]; omega
    · have hkl : k = ac.length := by omega
      subst hkl
      have HT : Hid (keptB l 0 ac = true) := Lib.hid (HK.out.symm.trans (by rw [List.drop_length]; rfl))
      go_wp2_with fail
      go_ret
      exact ⟨ret_bool HT.out.symm, Upd.of_below H1.out.below⟩

set_option maxHeartbeats 2000000 in
set_option maxRecDepth 100000 in
theorem rkept_any (v u : Value) (l ac : List En) (w : World) (hn : l.length ≤ 100000) (hm : ac.length ≤ 100000) (h : Ens w v l) (h' : Ens w u ac) :
    Calls Tryz.prog 21 #[v, u] w fun e w' => e = .returned (.bool (keptB l 0 ac)) ∧ Upd [] w w' := by
  obtain ⟨ao, cap, rfl, h1, h2, h3, h4, h5⟩ := h
  obtain ⟨bo, cap', rfl, k1, k2, k3, k4, k5⟩ := h'
  clear h1 h2 h3 h4 k1 k2 k3 k4
  have H5 := Lib.hid h5
  have K5 := Lib.hid k5
  clear h5 k5
  go_enter Tryz.func21, Tryz.ntmps21
  go_wp2_with fail
  go_loopw [5, 10] (fun f i wr => ∃ fr k : Nat, k ≤ ac.length ∧ fr ≤ l.length ∧ i = .int .i64 k ∧ f = .int .i64 ((fr : Int) - 1) ∧ Hid (keptB l fr (ac.drop k) = keptB l 0 ac) ∧ Hid (Own w.heap.size w wr [])) (fun _ i _ => ac.length - (intOf i).toNat)
  case atStart => exact ⟨0, 0, by omega, by omega, rfl, rfl, Lib.hid rfl, Lib.hid (Own.start (Below.refl _ _) (Nat.le_refl _))⟩
  case round =>
    obtain ⟨fr, k, hk, hfr, rfl, rfl, HK, H1⟩ := hrel
    by_cases hlt : k < ac.length
    · have hkI : (k : Int) < (ac.length : Int) := by omega
      obtain ⟨b', o', rfl, hbs', hc'⟩ := K5.out (by omega)
      have HCC := Lib.hid hc'
      clear hc'
      go_wp2_with fail
      go_loopw [5, 15] (fun f i wr => ∃ m : Nat, m ≤ l.length ∧ f = .int .i64 ((fr : Int) - 1) ∧ i = .int .i64 m ∧ Hid (NoneTo l ac[k] m) ∧ Hid (Own w.heap.size w wr [])) (fun _ i _ => l.length - (intOf i).toNat)
      case atStart => exact ⟨0, by omega, rfl, rfl, Lib.hid (fun i hi hj => by omega), H1⟩
      case round =>
        clear H1
        obtain ⟨m, hml, rfl, rfl, HN, H1⟩ := hrel
        by_cases hlm : m < l.length
        · have hmI : (m : Int) < (l.length : Int) := by omega
          obtain ⟨b, o, rfl, hbs, hc⟩ := H5.out (by omega)
          obtain ⟨p0, p1, p2, p3, p4, p5, p6⟩ := ens_cells (cells_below H1.out.below hbs hc) m l[m] (by simp)
          obtain ⟨r0, r1, r2, r3, r4, r5, r6⟩ := ens_cells (cells_below H1.out.below hbs' HCC.out) k ac[k] (by simp)
          clear hc
          by_cases hc1 : l[m].rq.client = ac[k].rq.client
          · have hcb : (l[m].rq.client != ac[k].rq.client) = false := by simp [hc1]
            have HC1 := Lib.hid hc1
            clear hc1
            by_cases hc2 : l[m].rq.time = ac[k].rq.time
            · have hcb2 : (l[m].rq.time != ac[k].rq.time) = false := by simp [hc2]
              have HF := Lib.hid (find_some hlm HN.out (sameId_true HC1.out hc2))
              clear hc2 HN
              by_cases he : l[m] = ac[k]
              · have heq : ∀ wx, (Op.equalIn 10000 40 (enAgg l[m]) (enAgg ac[k])).run Tryz.prog wx = .ok true wx := fun wx => by rw [run_equal_en]; simp [he]
                have HE := Lib.hid he
                clear he
                have hgd := Tryz.guardEn
                by_cases hf : fr ≤ m
                · have hfI : decide ((m : Int) ≤ (fr : Int) - 1) = false := by simp; omega
                  go_wp2_with fail
                  go_quiet (fail)
                  go_wp2_with fail
                  go_quiet (fail)
                  go_wp2_with fail
                  go_roundw
                  case rel => exact ⟨m + 1, k + 1, by omega, by omega, by go_num, by go_num, Lib.hid ((kept_at_good hlt hlm HF.out HE.out hf).symm.trans HK.out), Lib.hid (H1.out.upd0 ((Upd.refl _ _).drewN _))⟩
                  case measure => simp [intOf]; omega
                · have hfI : (m : Int) ≤ (fr : Int) - 1 := by omega
                  go_wp2_with fail
                  go_quiet (fail)
                  go_wp2_with fail
                  go_quiet (fail)
                  go_wp2_with fail
                  go_ret
                  exact ⟨ret_bool ((kept_at_bad hlt hlm HF.out (.inr (by omega))).symm.trans HK.out), Upd.of_below (below_drewN (below_drewN H1.out.below _) _)⟩
              · have heq : ∀ wx, (Op.equalIn 10000 40 (enAgg l[m]) (enAgg ac[k])).run Tryz.prog wx = .ok false wx := fun wx => by rw [run_equal_en]; simp [he]
                have HE := Lib.hid he
                clear he
                have hgd := Tryz.guardEn
                go_wp2_with fail
                go_quiet (fail)
                go_wp2_with fail
                go_quiet (fail)
                go_wp2_with fail
                go_ret
                exact ⟨ret_bool ((kept_at_bad hlt hlm HF.out (.inl HE.out)).symm.trans HK.out), Upd.of_below (below_drewN (below_drewN H1.out.below _) _)⟩
            · have hcb2 : (l[m].rq.time != ac[k].rq.time) = true := by simp [hc2]
              have HC2 := Lib.hid hc2
              clear hc2
              go_wp2_with fail
              go_quiet (fail)
              go_wp2_with fail
              go_roundw
              case rel => exact ⟨m + 1, by omega, rfl, by go_num, Lib.hid (HN.out.next (fun _ => sameId_no2 HC2.out)), Lib.hid (H1.out.upd0 ((Upd.refl _ _).drewN _))⟩
              case measure => simp [intOf]; omega
          · have hcb : (l[m].rq.client != ac[k].rq.client) = true := by simp [hc1]
            have HC1 := Lib.hid hc1
            clear hc1
            go_wp2_with fail
            go_quiet (fail)
            go_wp2_with fail
            go_roundw
            case rel => exact ⟨m + 1, by omega, rfl, by go_num, Lib.hid (HN.out.next (fun _ => sameId_no1 HC1.out)), Lib.hid (H1.out.upd0 ((Upd.refl _ _).drewN _))⟩
            case measure => simp [intOf]; omega
        · have hml2 : m = l.length := by omega
          subst hml2
          go_wp2_with fail
          go_roundw
          case rel => exact ⟨fr, k + 1, by omega, by omega, by go_num, rfl, Lib.hid ((kept_at_none hlt (find_none HN.out)).symm.trans HK.out), H1⟩
          case measure => simp [intOf]; omega
    · have hkl : k = ac.length := by omega
      subst hkl
      have HT : Hid (keptB l 0 ac = true) := Lib.hid (HK.out.symm.trans (by rw [List.drop_length]; rfl))
      go_wp2_with fail
      go_ret
      exact ⟨ret_bool HT.out.symm, Upd.of_below H1.out.below⟩

end Go.Proofs.YtimdphlolmbhnaaGreat

/- Agree: audit's and the document's; copies of logs. -/
namespace Go.Proofs.YtimdphlolmbhnaaGreat
open Go.RowKit Go.Heap

/-- A log and its slice. -/
structure Lo where
  v : Value
  es : List En
/-- v is a slice of logs. -/
def Logs (w : World) (v : Value) (xs : List Lo) : Prop := Reads w v 1 xs.length (xs.map Lo.v) ∧ ∀ x ∈ xs, Ens w x.v x.es
theorem Logs.upd {w w' : World} {v : Value} {xs : List Lo} (h : Logs w v xs) (hu : Upd [] w w') : Logs w' v xs := ⟨h.1.upd hu (by simp), fun x hx => (h.2 x hx).upd hu (by simp)⟩
def PrefTo (xs : List Lo) (k : Nat) : Prop := ∀ i, i < k → ∀ j, j < i → prefB ((xs.map Lo.es).getD i []) ((xs.map Lo.es).getD j []) = true
def PrefRow (xs : List Lo) (k m : Nat) : Prop := ∀ j, j < m → prefB ((xs.map Lo.es).getD k []) ((xs.map Lo.es).getD j []) = true
theorem PrefTo.next {xs : List Lo} {k : Nat} (h : PrefTo xs k) (h2 : PrefRow xs k k) : PrefTo xs (k + 1) := fun i hi j hj => by
  by_cases e : i = k
  · subst e; exact h2 j hj
  · exact h i (by omega) j hj
theorem lo_get {xs : List Lo} {k : Nat} (hk : k < xs.length) : (xs.map Lo.es).getD k [] = xs[k].es := by simp [List.getD, hk]
theorem PrefRow.next {xs : List Lo} {k m : Nat} (h : PrefRow xs k m) (hk : k < xs.length) (hm : m < xs.length) (h2 : prefB xs[k].es xs[m].es = true) : PrefRow xs k (m + 1) := fun j hj => by
  by_cases e : j = m
  · subst e; rw [lo_get hk, lo_get hm]; exact h2
  · exact h j (by omega)
theorem agree_true {xs : List Lo} (h : PrefTo xs xs.length) : agreeB (xs.map Lo.es) = true := by
  simp only [agreeB, decide_eq_true_eq, List.length_map]
  exact h
theorem agree_false {xs : List Lo} {k m : Nat} (hk : k < xs.length) (hmk : m < k) (h2 : prefB xs[k].es (xs[m]'(by omega)).es = false) : agreeB (xs.map Lo.es) = false := by
  simp only [agreeB, decide_eq_false_iff_not, List.length_map]
  intro c
  have h1 := c k hk m hmk
  rw [lo_get hk, lo_get (by omega), h2] at h1
  cases h1
theorem logs_cell {w : World} {ao : Option Addr} {n cap : Nat} {xs : List Lo} (h : Reads w (.slice ao n cap) 1 xs.length (xs.map Lo.v)) (k : Nat) (hk : k < xs.length) : ∃ b o, ao = some ⟨b, o, none⟩ ∧ b < w.heap.size ∧ ∀ k (hk : k < xs.length), w.cell? ⟨b, o + k, none⟩ = some xs[k].v := by
  obtain ⟨ao', cap', hv, h1, h2, h3, h4, h5⟩ := h
  simp only [Value.slice.injEq] at hv
  obtain ⟨rfl, rfl, rfl⟩ := hv
  obtain ⟨b, o, rfl, hb, hc⟩ := h5 (by omega)
  exact ⟨b, o, rfl, hb, fun k hk => by rw [hc k (by omega)]; simp [hk]⟩

set_option maxHeartbeats 1000000 in
set_option maxRecDepth 100000 in
theorem agree_any (v : Value) (xs : List Lo) (w : World) (hn : xs.length ≤ 1000) (hl : ∀ x ∈ xs, x.es.length ≤ 100000) (h : Logs w v xs) :
    Calls Tryz.prog 11 #[v] w fun e w' => e = .returned (.bool (agreeB (xs.map Lo.es))) ∧ Upd [] w w' := by
  obtain ⟨ao, cap, hv, hcap, -⟩ := h.1
  subst hv
  have HL := Lib.hid hl
  have H0 := Lib.hid h
  clear hl h
  have hcap : (xs.length : Int) ≤ (cap : Int) := by omega
  go_enter Tryz.func11, Tryz.ntmps11
  go_wp2_with fail
  go_loopw [9] (fun i wr => ∃ k : Nat, k ≤ xs.length ∧ i = .int .i64 k ∧ Hid (PrefTo xs k) ∧ Hid (Upd [] w wr)) (fun i _ => xs.length - (intOf i).toNat)
  case atStart => exact ⟨0, by omega, rfl, Lib.hid (fun i hi => by omega), Lib.hid (Upd.refl _ _)⟩
  case round =>
    obtain ⟨k, hk, rfl, HK, HU⟩ := hrel
    by_cases hlt : k < xs.length
    · have hkI : (k : Int) < (xs.length : Int) := by omega
      have hkc : (k : Int) ≤ (cap : Int) := by omega
      obtain ⟨b, o, rfl, -, hcs⟩ := logs_cell (H0.out.upd HU.out).1 k hlt
      have q0 := hcs k hlt
      clear hcs
      go_wp2_with fail
      clear q0
      go_loopw [18] (fun i wr => ∃ m : Nat, m ≤ k ∧ i = .int .i64 m ∧ Hid (PrefRow xs k m) ∧ Hid (Upd [] w wr)) (fun i _ => k - (intOf i).toNat)
      case atStart => exact ⟨0, by omega, rfl, Lib.hid (fun i hi => by omega), HU⟩
      case round =>
        clear HU
        obtain ⟨m, hm, rfl, HR, HU⟩ := hrel
        by_cases hlm : m < k
        · have hmI : (m : Int) < (k : Int) := by omega
          have hml : m < xs.length := by omega
          obtain ⟨b2, o2, e2, -, hcs⟩ := logs_cell (H0.out.upd HU.out).1 m hml
          simp only [Option.some.injEq, Addr.mk.injEq, and_true] at e2
          obtain ⟨rfl, rfl⟩ := e2
          have q0 := hcs m hml
          clear hcs
          have HC := Lib.hid (prefix_any xs[k].v xs[m].v xs[k].es xs[m].es wr (HL.out _ (List.getElem_mem hlt)) (HL.out _ (List.getElem_mem hml)) ((H0.out.upd HU.out).2 _ (List.getElem_mem hlt)) ((H0.out.upd HU.out).2 _ (List.getElem_mem hml)))
          go_wp2_with fail
          refine HC.out.mono ?_
          rintro e w3 ⟨rfl, hu⟩
          have HU3 := Lib.hid (HU.out.trans hu)
          clear hu HC q0
          cases hp : prefB xs[k].es xs[m].es with
          | true =>
            have HP := Lib.hid hp
            clear hp
            go_wp2_with fail
            go_roundw
            case rel => exact ⟨m + 1, by omega, by go_num, Lib.hid (HR.out.next hlt hml HP.out), HU3⟩
            case measure => simp [intOf]; omega
          | false =>
            have HP := Lib.hid hp
            clear hp
            go_wp2_with fail
            go_ret
            exact ⟨ret_bool (agree_false hlt hlm HP.out).symm, HU3.out⟩
        · have hmk : m = k := by omega
          subst hmk
          go_wp2_with fail
          go_roundw
          case rel => exact ⟨m + 1, by omega, by go_num, Lib.hid (HK.out.next HR.out), HU⟩
          case measure => simp [intOf]; omega
    · have hkl : k = xs.length := by omega
      subst hkl
      go_wp2_with fail
      go_ret
      exact ⟨ret_bool (agree_true HK.out).symm, HU.out⟩

set_option maxHeartbeats 1000000 in
set_option maxRecDepth 100000 in
theorem ragree_any (v : Value) (xs : List Lo) (w : World) (hn : xs.length ≤ 1000) (hl : ∀ x ∈ xs, x.es.length ≤ 100000) (h : Logs w v xs) :
    Calls Tryz.prog 16 #[v] w fun e w' => e = .returned (.bool (agreeB (xs.map Lo.es))) ∧ Upd [] w w' := by
  obtain ⟨ao, cap, hv, hcap, -⟩ := h.1
  subst hv
  clear hcap
  have HL := Lib.hid hl
  have H0 := Lib.hid h
  clear hl h
  go_enter Tryz.func16, Tryz.ntmps16
  go_wp2_with fail
  go_loopw [7] (fun i wr => ∃ k : Nat, k ≤ xs.length ∧ i = .int .i64 k ∧ Hid (PrefTo xs k) ∧ Hid (Upd [] w wr)) (fun i _ => xs.length - (intOf i).toNat)
  case atStart => exact ⟨0, by omega, rfl, Lib.hid (fun i hi => by omega), Lib.hid (Upd.refl _ _)⟩
  case round =>
    obtain ⟨k, hk, rfl, HK, HU⟩ := hrel
    by_cases hlt : k < xs.length
    · have hkI : (k : Int) < (xs.length : Int) := by omega
      go_wp2_with fail
      go_loopw [4] (fun i wr => ∃ m : Nat, m ≤ k ∧ i = .int .i64 m ∧ Hid (PrefRow xs k m) ∧ Hid (Upd [] w wr)) (fun i _ => k - (intOf i).toNat)
      case atStart => exact ⟨0, by omega, rfl, Lib.hid (fun i hi => by omega), HU⟩
      case round =>
        clear HU
        obtain ⟨m, hm, rfl, HR, HU⟩ := hrel
        by_cases hlm : m < k
        · have hmI : (m : Int) < (k : Int) := by omega
          have hml : m < xs.length := by omega
          have hmlI : (m : Int) < (xs.length : Int) := by omega
          obtain ⟨b, o, rfl, -, hcs⟩ := logs_cell (H0.out.upd HU.out).1 m hml
          have q0 := hcs m hml
          have q1 := hcs k hlt
          clear hcs
          have HC := fun wx (hx : Upd [] wr wx) => rprefix_any xs[k].v xs[m].v xs[k].es xs[m].es wx (HL.out _ (List.getElem_mem hlt)) (HL.out _ (List.getElem_mem hml)) ((H0.out.upd (HU.out.trans hx)).2 _ (List.getElem_mem hlt)) ((H0.out.upd (HU.out.trans hx)).2 _ (List.getElem_mem hml))
          have HC := Lib.hid HC
          go_wp2_with fail
          refine Mix.wp_text2 (by kernel_rfl) (by kernel_rfl) ?_
          go_wp2_with fail
          refine (HC.out _ (Upd.refl _ _).drew).mono ?_
          rintro e w3 ⟨rfl, hu⟩
          have HU3 := Lib.hid (HU.out.drew.trans hu)
          clear hu HC q0 q1
          cases hp : prefB xs[k].es xs[m].es with
          | true =>
            have HP := Lib.hid hp
            clear hp
            go_wp2_with fail
            refine ⟨by rfl, ?_⟩
            go_wp2_with fail
            go_roundw
            case rel => exact ⟨m + 1, by omega, by go_num, Lib.hid (HR.out.next hlt hml HP.out), HU3⟩
            case measure => simp [intOf]; omega
          | false =>
            have HP := Lib.hid hp
            clear hp
            go_wp2_with fail
            refine ⟨by rfl, ?_⟩
            go_wp2_with fail
            go_ret
            exact ⟨ret_bool (agree_false hlt hlm HP.out).symm, HU3.out⟩
        · have hmk : m = k := by omega
          subst hmk
          have hmI : decide ((m : Int) < (m : Int)) = false := by simp
          go_wp2_with fail
          go_roundw
          case rel => exact ⟨m + 1, by omega, by go_num, Lib.hid (HK.out.next HR.out), HU⟩
          case measure => simp [intOf]; omega
    · have hkl : k = xs.length := by omega
      subst hkl
      go_wp2_with fail
      go_ret
      exact ⟨ret_bool (agree_true HK.out).symm, HU.out⟩

/-- A copy lies in new memory. -/
theorem copy_any {B : Nat} {w0 W : World} {ss : List Res} (v : Value) (l : List En) (hn : l.length ≤ 100000) (hr : Ens W v l) (h : Own B w0 W ss) :
    Calls Tryz.prog 8 #[v] W fun e w' => ∃ ao c, e = .returned (.slice ao l.length c) ∧ Upd [] W w' ∧ Own B w0 w' (ownR 40 7 (.slice ao l.length c) l.length (ensCells l) :: ss) := by
  obtain ⟨i0, hi, hz0, hz1, hz2⟩ := info_parts Tryz.infoEn
  have H := Lib.hid h
  have HR := Lib.hid hr
  clear h hr
  go_enter Tryz.func8, Tryz.ntmps8
  go_wp2_with (at_builtin; refine wpList_fresh rfl (.tmp 3) 29 rfl 40 i0 (.agg #[.int .i64 0, .int .i64 0, .int .i64 0, .int .i64 0, .int .i64 0, .int .i64 0, .int .i64 0]) 7 56 Tryz.underlying29 hi hz0 hz1 hz2 rfl (by decide) _ _ _ rfl HR.out (ens_one l) (by omega) ?_)
  intro v' w' ho hu
  have H2 := Lib.hid (H.out.row1 hu ho)
  have HU := Lib.hid hu
  obtain ⟨ao, c, rfl⟩ := row_shape ho
  have hlen : (ao, c) = (ao, c) := rfl
  clear ho hu hlen
  go_wp2_with fail
  go_ret
  exact ⟨ao, c, rfl, HU.out, H2.out⟩

end Go.Proofs.YtimdphlolmbhnaaGreat

/- Clones of what is new: clocks, tables, votes, guards, meters. -/
namespace Go.Proofs.YtimdphlolmbhnaaGreat
open Go.RowKit Go.Heap

section
variable {B : Nat} {w0 W W' : World} {ss : List Res}

set_option maxHeartbeats 1600000 in
theorem clock_clone {t : Nat} (hb : W.heap[t]? = some (.cells #[.int .i64 0, .slice none 0 0] 246 (0, 0))) :
    Calls Tryz.prog 102 #[.pointer (some ⟨t, 0, none⟩)] W fun e w' => ∃ p, e = .returned (.pointer (some ⟨p, 0, none⟩)) ∧ Upd [] W w' := by
  have c0 : W.cell? ⟨t, 0, none⟩ = some (.int .i64 0) := by rw [block_cell hb]; rfl
  have c1 : W.cell? ⟨t, 1, none⟩ = some (.slice none 0 0) := by rw [block_cell hb]; rfl
  clear hb
  go_enter Tryz.func102, Tryz.ntmps102
  go_wp2_with fail
  go_region
  all_goals go_wp2
  all_goals go_ret
  all_goals exact ⟨_, rfl, ((Upd.refl _ _).drew).alloc _⟩

set_option maxHeartbeats 1600000 in
theorem prop_clone {t : Nat} (hb : W.heap[t]? = some (.cells #[.int .i64 1, .int .i64 2, .slice none 0 0] 257 (0, 0))) :
    Calls Tryz.prog 104 #[.pointer (some ⟨t, 0, none⟩)] W fun e w' => ∃ p, e = .returned (.pointer (some ⟨p, 0, none⟩)) ∧ Upd [] W w' := by
  have c0 : W.cell? ⟨t, 0, none⟩ = some (.int .i64 1) := by rw [block_cell hb]; rfl
  have c1 : W.cell? ⟨t, 1, none⟩ = some (.int .i64 2) := by rw [block_cell hb]; rfl
  have c2 : W.cell? ⟨t, 2, none⟩ = some (.slice none 0 0) := by rw [block_cell hb]; rfl
  clear hb
  go_enter Tryz.func104, Tryz.ntmps104
  go_wp2_with fail
  go_region
  all_goals go_wp2
  all_goals go_ret
  all_goals exact ⟨_, rfl, ((Upd.refl _ _).drew).alloc _⟩

end
end Go.Proofs.YtimdphlolmbhnaaGreat

/- Clones of what is new: guards, votes, meters. Copies of structs. -/
namespace Go.Proofs.YtimdphlolmbhnaaGreat
open Go.RowKit Go.Heap

section
variable {B : Nat} {w0 w W W' : World} {ss : List Res}

theorem news_at {g : Nat} {cs : Array Value} {T : TypeId} (h : w.heap[g]? = some (.cells cs T (0, 0))) : ∀ j u, cs.toList[j]? = some u → w.cell? ((⟨g, 0, none⟩ : Addr).add j) = some u := by
  intro j u hj
  have : (⟨g, 0, none⟩ : Addr).add j = ⟨g, j, none⟩ := by unfold Addr.add; split <;> simp_all
  rw [this, block_cell h]
  simpa using hj

theorem reads_blk {g n sz : Nat} {cs : Array Value} {T : TypeId} (h : w.heap[g]? = some (.cells cs T (0, 0))) (hs : cs.size = n * sz) (hn : n ≤ maxLen) : Reads w (.slice (some ⟨g, 0, none⟩) n n) sz n cs.toList :=
  ⟨_, _, rfl, Nat.le_refl _, hn, by simpa using hs, (fun e => by cases e), fun _ => ⟨g, 0, rfl, block_lt h, fun j _ => by rw [Nat.zero_add, block_cell h]; simp⟩⟩

theorem range_upd {b o : Nat} {cs : List Value} (hu : Upd [] w W) (h : w.rangeAt b o cs) : W.rangeAt b o cs := fun j v hj => cell_upd hu (h j v hj)
theorem range_alloc {b o : Nat} {cs : List Value} {ob : Obj} (h : w.rangeAt b o cs) : (w.alloc ob).rangeAt b o cs := fun j v hj => cell_allocd (h j v hj)
theorem range_blk {b : Nat} {cs : Array Value} {T : TypeId} (h : w.heap[b]? = some (.cells cs T (0, 0))) : w.rangeAt b 0 cs.toList := fun j v hj => by
  rw [Nat.zero_add, block_cell h]
  simpa using hj
theorem range_seg {b : Nat} {T : TypeId} {cs : List Value} {A : List Nat} (h : (segR b T cs).At w A) : w.rangeAt b 0 cs := fun j v hj => by
  obtain ⟨-, q, -⟩ := segR_at h
  rw [Nat.zero_add, q j (List.getElem?_eq_some_iff.1 hj).1]
  exact hj

theorem setCells_blk {b : Nat} {T : TypeId} {fr : Nat × Nat} : ∀ (vs : List Value) (o : Nat) (w : World) (cur : Array Value), w.heap[b]? = some (.cells cur T fr) → ∃ cur', (w.setCells b o vs).heap[b]? = some (.cells cur' T fr) ∧ cur'.size = cur.size ∧
    ∀ j, cur'[j]? = if o ≤ j ∧ j < o + vs.length ∧ j < cur.size then vs[j - o]? else cur[j]?
  | [], o, w, cur, h => ⟨cur, h, rfl, fun j => by rw [if_neg (by simp; omega)]⟩
  | v :: vs, o, w, cur, h => by
    have h1 : (w.setCell ⟨b, o, none⟩ v).heap[b]? = some (.cells (cur.setIfInBounds o v) T fr) := by rw [hp_same rfl, h]; rfl
    obtain ⟨cur', e1, e2, e3⟩ := setCells_blk vs (o + 1) _ _ h1
    refine ⟨cur', e1, by simpa using e2, fun j => ?_⟩
    rw [e3 j]
    simp only [Array.size_setIfInBounds, List.length_cons]
    by_cases hj : o = j
    · subst hj
      rw [if_neg (by omega), Array.getElem?_setIfInBounds_self]
      by_cases hs : o < cur.size
      · rw [if_pos hs, if_pos ⟨Nat.le_refl _, by omega, hs⟩]; simp
      · rw [if_neg hs, if_neg (by omega), Array.getElem?_eq_none (by omega)]
    · rw [Array.getElem?_setIfInBounds_ne hj]
      by_cases h2 : o + 1 ≤ j ∧ j < o + 1 + vs.length ∧ j < cur.size
      · rw [if_pos h2, if_pos ⟨by omega, by omega, h2.2.2⟩]
        rw [show j - o = (j - (o + 1)) + 1 by omega, List.getElem?_cons_succ]
      · rw [if_neg h2, if_neg (by omega)]

theorem upd_setCs {b : Nat} : ∀ (vs : List Value) (o : Nat) (w0 w : World), Upd [b] w0 w → Upd [b] w0 (w.setCells b o vs)
  | [], _, _, _, h => h
  | v :: vs, o, w0, w, h => upd_setCs vs (o + 1) w0 _ (h.setCell (.inl (by simp)) v)

/-- A struct that was copied into a new block. -/
theorem own_struct (h : Own B w0 W ss) {z : Array Value} {T : TypeId} {cs : List Value} (hz : z.size = cs.length) {n : Nat} (hn : W.heap.size = n) : Own B w0 ((W.alloc (.cells z T (0, 0))).setCells n 0 cs) (segR n T cs :: ss) := by
  subst hn
  have h1 := h.box (.cells z T (0, 0))
  have hu : Upd [W.heap.size] (W.alloc (.cells z T (0, 0))) ((W.alloc (.cells z T (0, 0))).setCells W.heap.size 0 cs) := upd_setCs _ _ _ _ (Upd.refl _ _)
  obtain ⟨cur', e1, e2, e3⟩ := setCells_blk cs 0 (W.alloc (.cells z T (0, 0))) z (heap_alloc_new W _)
  exact h1.step (r' := segR W.heap.size T cs) hu ⟨[], ⟨⟨cur', e1, by rw [e2, hz]; exact Nat.le_refl _, fun j hj => by
    rw [e3 j, if_pos ⟨by omega, by omega, by omega⟩, Nat.sub_zero]⟩, rfl⟩, by simp, fun k hk => Nat.lt_of_lt_of_le (h1.lt k hk) hu.size⟩ (fun k hk => .inl hk)

theorem there_new {z : Array Value} {T : TypeId} {n k : Nat} (hn : W.heap.size = n) (hk : k ≤ z.size) : (W.alloc (.cells z T (0, 0))).there n 0 k := fun j hj => by
  subst hn
  have hb := heap_alloc_new W (.cells z T (0, 0))
  refine ⟨?_, block_frozen hb _⟩
  rw [Nat.zero_add, block_cell hb, Array.getElem?_eq_getElem (by omega)]
  rfl

set_option maxHeartbeats 1600000 in
theorem flood_clone {t : Nat} (hb : W.heap[t]? = some (.cells #[.int .i64 8, .int .i64 8, .slice none 0 0] 263 (0, 0))) :
    Calls Tryz.prog 106 #[.pointer (some ⟨t, 0, none⟩)] W fun e w' => ∃ p, e = .returned (.pointer (some ⟨p, 0, none⟩)) ∧ Upd [] W w' := by
  have c0 : W.cell? ⟨t, 0, none⟩ = some (.int .i64 8) := by rw [block_cell hb]; rfl
  have c1 : W.cell? ⟨t, 1, none⟩ = some (.int .i64 8) := by rw [block_cell hb]; rfl
  have c2 : W.cell? ⟨t, 2, none⟩ = some (.slice none 0 0) := by rw [block_cell hb]; rfl
  clear hb
  go_enter Tryz.func106, Tryz.ntmps106
  go_wp2_with fail
  go_region
  all_goals go_wp2
  all_goals go_ret
  all_goals exact ⟨_, rfl, ((Upd.refl _ _).drew).alloc _⟩

theorem cv_one : ∀ u ∈ (madeCells #[.bool false, .int .i64 0, .int .i64 0] 12).toList, u.oneCell' = true := by decide +kernel
theorem cv_size : (madeCells #[.bool false, .int .i64 0, .int .i64 0] 12).toList.length = 12 := by simp [size_madeCells]

set_option maxHeartbeats 1600000 in
theorem change_clone {t g : Nat} (hb : W.heap[t]? = some (.cells #[.int .i64 1, .slice (some ⟨g, 0, none⟩) 4 4] 260 (0, 0))) (hg : W.heap[g]? = some (.cells (madeCells #[.bool false, .int .i64 0, .int .i64 0] 12) 327 (0, 0))) :
    Calls Tryz.prog 105 #[.pointer (some ⟨t, 0, none⟩)] W fun e w' => ∃ p, e = .returned (.pointer (some ⟨p, 0, none⟩)) ∧ Upd [] W w' := by
  obtain ⟨i0, hi, hz0, hz1, hz2⟩ := info_parts Tryz.infocv
  have c0 : W.cell? ⟨t, 0, none⟩ = some (.int .i64 1) := by rw [block_cell hb]; rfl
  have c1 : W.cell? ⟨t, 1, none⟩ = some (.slice (some ⟨g, 0, none⟩) 4 4) := by rw [block_cell hb]; rfl
  have HN := Lib.hid (news_at hg)
  have HO := Lib.hid cv_one
  have HS := Lib.hid cv_size
  clear hb hg
  generalize (madeCells #[.bool false, .int .i64 0, .int .i64 0] 12).toList = cs at *
  go_enter Tryz.func105, Tryz.ntmps105
  go_wp2_with fail
  have d0 : W.drew.cell? ⟨t, 0, none⟩ = some (.int .i64 1) := c0
  have d1 : W.drew.cell? ⟨t, 1, none⟩ = some (.slice (some ⟨g, 0, none⟩) 4 4) := c1
  go_region_held3 (fun w' => w'.cell? ⟨t, 0, none⟩ = some (.int .i64 1) ∧ w'.cell? ⟨t, 1, none⟩ = some (.slice (some ⟨g, 0, none⟩) 4 4))
    (first | (with_reducible exact ⟨d0, d1⟩) | (with_reducible exact ⟨e0, e1⟩) | (with_reducible exact ⟨cell_allocd e0, cell_allocd e1⟩))
    (first | (refine step_append_lies _ (by rfl) (.const (.slice none 0 0)) (.tmp 10) _ (by rfl) W.heap.size 327 i0 (.agg #[.bool false, .int .i64 0, .int .i64 0]) 3 24 Tryz.underlying258 hi hz0 hz1 hz2 rfl (by decide) (.slice none 0 0) 0 [] (by rfl) (World.ownsRow_nil _ _ _ _) ⟨g, 0, none⟩ 4 4 cs (by rfl) HS.out HN.out HO.out (by decide) (by decide) (by decide) (Nat.le_refl _) W.heap.size (by simp) ?_; intro g1 cap1 w1 hown1 hgrow hat hlt; have hu1 : Upd [] W.drew w1 := (Upd.refl _ _).grown hgrow (by intro k hk; cases hk); have HU1 := Lib.hid hu1; have e0 := cell_upd hu1 d0; have e1 := cell_upd hu1 d1; clear hown1 hgrow hat hlt hu1))
  go_wp2_with fail
  go_ret
  exact ⟨_, rfl, (((Upd.refl _ _).drew).trans HU1.out).alloc _⟩

end
end Go.Proofs.YtimdphlolmbhnaaGreat

/- Meters, clients, seals: made and cloned. -/
namespace Go.Proofs.YtimdphlolmbhnaaGreat
open Go.RowKit Go.Heap

section
variable {B : Nat} {w0 w W W' : World} {ss : List Res}

theorem cx_one : ∀ u ∈ (madeCells #[.complex .f64 0 0] 2).toList, u.oneCell' = true := by decide +kernel
theorem cx_size : (madeCells #[.complex .f64 0 0] 2).size = 2 * 1 := by simp [size_madeCells]

set_option maxHeartbeats 400000 in
theorem meter_all {t g : Nat} (hb : W.heap[t]? = some (.cells #[.slice (some ⟨g, 0, none⟩) 2 2] 266 (0, 0))) (hg : W.heap[g]? = some (.cells (madeCells #[.complex .f64 0 0] 2) 330 (0, 0))) :
    Calls Tryz.prog 114 #[.pointer (some ⟨t, 0, none⟩)] W fun e w' => ∃ ao cap, e = .returned (.slice ao 2 cap) ∧ Upd [] W w' := by
  obtain ⟨i0, hi, hz0, hz1, hz2⟩ := info_parts Tryz.infocx
  have c0 : W.cell? ⟨t, 0, none⟩ = some (.slice (some ⟨g, 0, none⟩) 2 2) := by rw [block_cell hb]; rfl
  have hr := reads_blk hg cx_size (by decide)
  have HO := Lib.hid cx_one
  clear hb hg
  generalize (madeCells #[.complex .f64 0 0] 2).toList = cs at *
  go_enter Tryz.func114, Tryz.ntmps114
  go_wp2_with (at_builtin; refine wpList_fresh rfl (.tmp 6) 264 rfl 330 i0 (.complex .f64 0 0) 1 16 Tryz.underlying264 hi hz0 hz1 hz2 rfl (by decide) _ _ _ rfl hr HO.out (by decide) ?_)
  intro v w' ho hu
  have HU := Lib.hid hu
  obtain ⟨ao, cap, rfl⟩ := row_shape ho
  clear ho hu
  go_wp2_with fail
  go_ret
  exact ⟨ao, cap, rfl, HU.out⟩

set_option maxHeartbeats 400000 in
theorem meter_clone {t g : Nat} (hb : W.heap[t]? = some (.cells #[.slice (some ⟨g, 0, none⟩) 2 2] 266 (0, 0))) (hg : W.heap[g]? = some (.cells (madeCells #[.complex .f64 0 0] 2) 330 (0, 0))) :
    Calls Tryz.prog 107 #[.pointer (some ⟨t, 0, none⟩)] W fun e w' => ∃ p, e = .returned (.pointer (some ⟨p, 0, none⟩)) ∧ Upd [] W w' := by
  have HA := Lib.hid (meter_all hb hg)
  clear hb hg
  go_enter Tryz.func107, Tryz.ntmps107
  go_wp2_with fail
  refine HA.out.mono ?_
  rintro e w' ⟨ao, cap, rfl, hu⟩
  have HU := Lib.hid hu
  clear hu
  go_wp2_with fail
  go_ret
  exact ⟨_, rfl, HU.out.alloc _⟩

abbrev clCs (id : Int) (n t : Value) : List Value := [.int .i64 1, .int .i64 2, .int .i64 2, .int .i64 4, .int .i64 64, .int .i64 8, .int .i64 8, .int .i64 8, .int .i64 1, .int .i64 2, .int .i64 12, .int .i64 8, .int .i64 6, .int .i64 2, .int .i64 6,
  .int .i64 id, n, t, .bool false, .slice none 0 0, .int .i64 0, .slice none 0 0, .slice none 0 0, .slice none 0 0]
/-- A configuration lies there. -/
abbrev CfgAt (w : World) (b : Nat) : Prop := w.cell? ⟨b, 0, none⟩ = some (.int .i64 1) ∧ w.cell? ⟨b, 1, none⟩ = some (.int .i64 2) ∧ w.cell? ⟨b, 2, none⟩ = some (.int .i64 2) ∧ w.cell? ⟨b, 3, none⟩ = some (.int .i64 4) ∧ w.cell? ⟨b, 4, none⟩ = some (.int .i64 64) ∧ w.cell? ⟨b, 5, none⟩ = some (.int .i64 8) ∧ w.cell? ⟨b, 6, none⟩ = some (.int .i64 8) ∧ w.cell? ⟨b, 7, none⟩ = some (.int .i64 8) ∧ w.cell? ⟨b, 8, none⟩ = some (.int .i64 1) ∧ w.cell? ⟨b, 9, none⟩ = some (.int .i64 2) ∧ w.cell? ⟨b, 10, none⟩ = some (.int .i64 12) ∧ w.cell? ⟨b, 11, none⟩ = some (.int .i64 8) ∧ w.cell? ⟨b, 12, none⟩ = some (.int .i64 6) ∧ w.cell? ⟨b, 13, none⟩ = some (.int .i64 2) ∧ w.cell? ⟨b, 14, none⟩ = some (.int .i64 6)
theorem cfg_range {b : Nat} (h : w.rangeAt b 0 cfgCs.toList) : CfgAt w b := by
  refine ⟨?_, ?_, ?_, ?_, ?_, ?_, ?_, ?_, ?_, ?_, ?_, ?_, ?_, ?_, ?_⟩
  · exact Nat.zero_add 0 ▸ h 0 _ rfl
  · exact Nat.zero_add 1 ▸ h 1 _ rfl
  · exact Nat.zero_add 2 ▸ h 2 _ rfl
  · exact Nat.zero_add 3 ▸ h 3 _ rfl
  · exact Nat.zero_add 4 ▸ h 4 _ rfl
  · exact Nat.zero_add 5 ▸ h 5 _ rfl
  · exact Nat.zero_add 6 ▸ h 6 _ rfl
  · exact Nat.zero_add 7 ▸ h 7 _ rfl
  · exact Nat.zero_add 8 ▸ h 8 _ rfl
  · exact Nat.zero_add 9 ▸ h 9 _ rfl
  · exact Nat.zero_add 10 ▸ h 10 _ rfl
  · exact Nat.zero_add 11 ▸ h 11 _ rfl
  · exact Nat.zero_add 12 ▸ h 12 _ rfl
  · exact Nat.zero_add 13 ▸ h 13 _ rfl
  · exact Nat.zero_add 14 ▸ h 14 _ rfl
theorem cfg_upd {b : Nat} (hu : Upd [] w W) (h : CfgAt w b) : CfgAt W b := by
  obtain ⟨h0, h1, h2, h3, h4, h5, h6, h7, h8, h9, h10, h11, h12, h13, h14⟩ := h
  exact ⟨cell_upd hu h0, cell_upd hu h1, cell_upd hu h2, cell_upd hu h3, cell_upd hu h4, cell_upd hu h5, cell_upd hu h6, cell_upd hu h7, cell_upd hu h8, cell_upd hu h9, cell_upd hu h10, cell_upd hu h11, cell_upd hu h12, cell_upd hu h13, cell_upd hu h14⟩
theorem cfg_alloc {b : Nat} {o : Obj} (h : CfgAt w b) : CfgAt (w.alloc o) b := cfg_upd ((Upd.refl _ _).alloc o) h

abbrev clockO : Obj := .cells #[.int .i64 0, .slice none 0 0] 246 (0, 0)

theorem clock_new2 (h : Own B w0 W ss) : Calls Tryz.prog 86 #[] W fun e w' => ∃ p, e = .returned (.pointer (some ⟨p, 0, none⟩)) ∧ Upd [] W w' ∧ Own B w0 w' (blk p clockO :: ss) := by
  have H := Lib.hid h
  clear h
  go_enter Tryz.func86, Tryz.ntmps86
  go_wp2
  go_ret
  exact ⟨_, rfl, (Upd.refl _ _).alloc _, H.out.box _⟩

theorem Tryz.infoCfg : (Tryz.prog.info? 57).map (·.size) = some cfgCs.toList.length := by kernel_rfl

set_option maxHeartbeats 1600000 in
set_option maxRecDepth 100000 in
theorem client_new (id : Int) (nt : Nat) (h0 : 0 ≤ id) (h2 : id < 2) (h : Own B w0 W ss) :
    Calls Tryz.prog 63 #[cfgV, .int .i64 id, .pointer (some ⟨nt, 0, none⟩)] W fun e w' => ∃ p t, e = .returned (.tuple #[.pointer (some ⟨p, 0, none⟩), .int .i64 0]) ∧ Own B w0 w' (segR p 198 (clCs id (.pointer (some ⟨nt, 0, none⟩)) (.pointer (some ⟨t, 0, none⟩))) :: blk t clockO :: ss) := by
  have H := Lib.hid h
  clear h
  go_enter Tryz.func63, Tryz.ntmps63
  go_wp2_with fail
  have hb := heap_alloc_new W (.cells cfgCs 57)
  have H1 := Lib.hid (H.out.alloc (.cells cfgCs 57))
  generalize hq : W.heap.size = q at *
  generalize W.alloc (.cells cfgCs 57) = w1 at *
  refine (cvalid _).mono ?_
  rintro e w2 ⟨rfl, hu⟩
  have H2 := Lib.hid (H1.out.upd0 hu)
  have hr : w2.rangeAt q 0 cfgCs.toList := range_upd hu (range_blk hb)
  have c1 : w2.cell? ⟨q, 1, none⟩ = some (.int .i64 2) := hr 1 _ rfl
  have HR := Lib.hid hr
  clear hu hb H1 H hr
  go_wp2_with fail
  have d0 : CfgAt w2.drew q := cfg_range HR.out
  have HC := Lib.hid (clock_new2 H2.out.drew)
  clear HR H2 c1
  go_region_held3 (fun w' => CfgAt w' q)
    (first | (with_reducible exact d0) | (with_reducible exact e0) | (with_reducible exact cfg_alloc e0))
    (first | (go_at_call 86; refine HC.out.mono ?_; rintro e w3 ⟨t, rfl, hu3, h3⟩; have H3 := Lib.hid h3; have e0 := cfg_upd hu3 d0; clear h3 hu3))
  go_wp2_with fail
  go_ret2
  exact ⟨_, t, rfl, own_toSeg (H3.out.box (.cells (clCs id (.pointer (some ⟨nt, 0, none⟩)) (.pointer (some ⟨t, 0, none⟩))).toArray 198 (0, 0))) rfl⟩

end
end Go.Proofs.YtimdphlolmbhnaaGreat
