/- Parts of the proof, one behind the other. -/
import Derived.Test.YtimdphlolmbhnaaGreatAudB13
import Derived.Laws.EntriesVeiled
import Derived.Great.Walk

/- audit: Cluster finds nothing in a new cluster. -/
namespace Go.Proofs.YtimdphlolmbhnaaGreat
open Go.RowKit Go.Heap

section
variable {B : Nat} {w0 w W W' : World} {ss rs : List Res} {pb q : Nat} {pt : Pt}

/-- What a rule over these parties says. -/
def RuleP (B : Nat) (w0 : World) (pb q : Nat) (pt : Pt) (ss : List Res) (e : Ending) (w' : World) : Prop := e = .returned (.bool true) ∧ PtO B w0 w' pb q pt ss

theorem rule1 (h : PtO B w0 W pb q pt ss) (hk : PtOk pt 4 2) : Calls Tryz.prog 36 #[ptrV pb] W (RuleP B w0 pb q pt ss) := by
  have hp := pt_at h
  obtain ⟨g, h1, h2, h3, h4⟩ := hp.r2
  have p1 := hp.p1
  rw [h1] at p1
  have HC := Lib.hid (agree_z h3 h2 h4 hk.ls)
  have H := Lib.hid h
  clear hp h h1 h2 h3 h4 hk
  go_enter Tryz.func36, Tryz.ntmps36
  go_wp2_with fail
  refine HC.out.mono ?_
  rintro e w' ⟨rfl, rfl⟩
  clear p1 HC
  go_wp2_with fail
  go_ret
  exact ⟨rfl, H.out⟩

/-- The parties' variable, read whole. -/
theorem pt_cells (h : PtAt W pb q pt) : W.cell? ⟨pb, 0, none⟩ = some (.slice pt.a1 4 pt.c1) ∧ W.cell? ⟨pb, 1, none⟩ = some (.slice pt.a2 4 pt.c2) ∧ W.cell? ⟨pb, 2, none⟩ = some (.slice pt.a3 2 pt.c3) ∧ W.cell? ⟨pb, 3, none⟩ = some (.slice pt.a4 2 pt.c4) ∧ W.cell? ⟨pb, 4, none⟩ = some (.slice pt.a5 2 pt.c5) := ⟨h.p0, h.p1, h.p2, h.p3, h.p4⟩

theorem rule2 (h : PtO B w0 W pb q pt ss) (hk : PtOk pt 4 2) : Calls Tryz.prog 37 #[ptrV pb] W (RuleP B w0 pb q pt ss) := by
  have hp := pt_at h
  have HC := Lib.hid (each_once (pt_logs hp hk) (fun w1 _ a c => (once_z a c w1).mono (by rintro e w' ⟨rfl, rfl⟩; exact ⟨rfl, Upd.refl _ _⟩)))
  have H := Lib.hid h
  obtain ⟨p0, p1, p2, p3, p4⟩ := pt_cells hp
  clear hp h hk
  go_enter Tryz.func37, Tryz.ntmps37
  go_wp2_with fail
  refine HC.out.mono ?_
  rintro e w' ⟨rfl, hu⟩
  have H2 := Lib.hid (H.out.upd hu)
  clear p0 p1 p2 p3 p4 HC hu
  go_wp2_with fail
  go_ret
  exact ⟨rfl, H2.out⟩

theorem rule3 (h : PtO B w0 W pb q pt ss) (hk : PtOk pt 4 2) : Calls Tryz.prog 39 #[ptrV pb, ptrV q] W (RuleP B w0 pb q pt ss) := by
  have hp := pt_at h
  have HC := Lib.hid (each_follows q (pt_logs hp hk) (fun w1 hu a c => c_follows a c (cell_upd hu hp.q1)))
  have H := Lib.hid h
  obtain ⟨p0, p1, p2, p3, p4⟩ := pt_cells hp
  clear hp h hk
  go_enter Tryz.func39, Tryz.ntmps39
  go_wp2_with fail
  refine HC.out.mono ?_
  rintro e w' ⟨rfl, hu⟩
  have H2 := Lib.hid (H.out.upd hu)
  clear p0 p1 p2 p3 p4 HC hu
  go_wp2_with fail
  go_ret
  exact ⟨rfl, H2.out⟩

theorem rule4 (h : PtO B w0 W pb q pt ss) : Calls Tryz.prog 41 #[ptrV pb, ptrV q] W (RuleP B w0 pb q pt ss) := by
  have hp := pt_at h
  obtain ⟨g, h1, h2, h3, -⟩ := hp.r1
  have p0 := hp.p0
  rw [h1] at p0
  have H := Lib.hid h
  have H1 := Lib.hid h1
  have HN := Lib.hid h3
  have hcI : (4 : Int) ≤ (pt.c1 : Int) := by omega
  clear hp h h1 h2 h3
  go_enter Tryz.func41, Tryz.ntmps41
  go_wp2_with fail
  clear p0
  go_loopw [8] (fun n wr => ∃ k : Nat, k ≤ 4 ∧ n = .int .i64 k ∧ Hid (PtO B w0 wr pb q pt ss)) (fun n _ => 4 - (intOf n).toNat)
  case atStart => exact ⟨0, by omega, rfl, H⟩
  case round =>
    clear H
    obtain ⟨k, hk, rfl, H⟩ := hrel
    by_cases hlt : k < 4
    · have hkI : (k : Int) < 4 := by omega
      have hk0 : (0 : Int) ≤ (k : Int) := by omega
      have hp := pt_at H.out
      obtain ⟨p, hpk⟩ : ∃ p, (pt.ys.map (·.p))[k]? = some p := ⟨_, List.getElem?_eq_getElem (by have := HN.out; simp at this ⊢; omega)⟩
      obtain ⟨g', e1, -, -, h4⟩ := hp.r1
      have hgg : g' = g := by
        have := e1.symm.trans H1.out
        simpa using this
      subst hgg
      have ck := h4 k (ptrV p) (by
        rw [List.getElem?_map] at hpk ⊢
        cases hy : pt.ys[k]? with
        | none => rw [hy] at hpk; cases hpk
        | some y => rw [hy] at hpk; simp at hpk ⊢; exact hpk)
      have q1 := hp.q1
      obtain ⟨rest, hc, hback⟩ := pt_pick H.out hpk
      have HC := Lib.hid (whole_z hc)
      have HB := Lib.hid hback
      clear hp hpk e1 h4 hc hback
      go_wp2_with fail
      refine HC.out.mono ?_
      rintro e w2 ⟨rfl, h2⟩
      have H2 := Lib.hid (HB.out _ h2)
      clear h2 ck q1 HC
      go_wp2_with fail
      go_roundw
      case rel => exact ⟨k + 1, by omega, by go_num, H2⟩
      case measure => simp [intOf]; omega
    · have hkI : decide ((k : Int) < 4) = false := by simp; omega
      go_wp2_with fail
      go_ret
      exact ⟨rfl, H.out⟩

theorem rule5 (h : PtO B w0 W pb q pt ss) (hk : PtOk pt 4 2) : Calls Tryz.prog 43 #[ptrV pb] W (RuleP B w0 pb q pt ss) := by
  have hp := pt_at h
  have HC := Lib.hid (each_kept pb (pt_logs hp hk) (fun w1 hu a c => c_kept a c (hp.upd hu) hk))
  have H := Lib.hid h
  obtain ⟨p0, p1, p2, p3, p4⟩ := pt_cells hp
  clear hp h hk
  go_enter Tryz.func43, Tryz.ntmps43
  go_wp2_with fail
  refine HC.out.mono ?_
  rintro e w' ⟨rfl, hu⟩
  have H2 := Lib.hid (H.out.upd hu)
  clear p0 p1 p2 p3 p4 HC hu
  go_wp2_with fail
  go_ret
  exact ⟨rfl, H2.out⟩

theorem rule6 (h : PtO B w0 W pb q pt ss) (hk : PtOk pt 4 2) : Calls Tryz.prog 45 #[ptrV pb] W (RuleP B w0 pb q pt ss) := by
  have hp := pt_at h
  have HC := Lib.hid (each_given pb (pt_logs hp hk) (fun w1 hu a c => c_given a c (hp.upd hu) hk))
  have H := Lib.hid h
  obtain ⟨p0, p1, p2, p3, p4⟩ := pt_cells hp
  clear hp h hk
  go_enter Tryz.func45, Tryz.ntmps45
  go_wp2_with fail
  refine HC.out.mono ?_
  rintro e w' ⟨rfl, hu⟩
  have H2 := Lib.hid (H.out.upd hu)
  clear p0 p1 p2 p3 p4 HC hu
  go_wp2_with fail
  go_ret
  exact ⟨rfl, H2.out⟩

theorem Tryz.infoCt : (Tryz.prog.info? 147).map (fun i => (i.zero, i.size, i.bytes)) = some (some (.agg #[.int .i64 0, .int .i64 0, .int .i64 0, .slice none 0 0, .slice none 0 0]), 5, 72) := by kernel_rfl

theorem pt_box (h : PtO B w0 W pb q pt ss) (o : Obj) : PtO B w0 (W.alloc o) pb q pt (blk W.heap.size o :: ss) := by
  obtain ⟨ys, h1, h2, h3⟩ := h
  refine ⟨ys, h1, h2, (h3.box o).perm ?_⟩
  have := perm_in (blk W.heap.size o) (ys.map cnR) (segR pb 83 (ptCs pt 4 2 2 2) :: blk q cfgO :: ptL pt 4 4 2 2 2) ss
  exact this
theorem pt_drop {r : Res} (h : PtO B w0 W pb q pt (r :: ss)) : PtO B w0 W pb q pt ss := by
  obtain ⟨ys, h1, h2, h3⟩ := h
  refine ⟨ys, h1, h2, ?_⟩
  have := perm_in r (ys.map cnR) (segR pb 83 (ptCs pt 4 2 2 2) :: blk q cfgO :: ptL pt 4 4 2 2 2) ss
  exact (h3.perm this.symm).drop
theorem pt_blk {b : Nat} {o : Obj} (h : PtO B w0 W pb q pt (blk b o :: ss)) : W.heap[b]? = some o := by
  obtain ⟨ys, h1, h2, h3⟩ := h
  exact blk_out (h3.all (blk b o) (by simp [ptS])).1

set_option maxHeartbeats 1600000 in
set_option maxRecDepth 100000 in
theorem alike_z (h : PtO B w0 W pb q pt ss) : Calls Tryz.prog 48 #[.agg (ptCs pt 4 2 2 2).toArray, .int .i64 2] W (RuleP B w0 pb q pt ss) := by
  obtain ⟨i0, hi, hz0, hz1, hz2⟩ := info_parts Tryz.infoCt
  have hp := pt_at h
  obtain ⟨g, h1, h2, h3, -⟩ := hp.r1
  have HN := Lib.hid h3
  have H1 := Lib.hid h1
  have hcI : (4 : Int) ≤ (pt.c1 : Int) := by omega
  have H := Lib.hid (pt_box h (.cells (ptCs pt 4 2 2 2).toArray 83 (0, 0)))
  clear hp h h1 h2 h3
  go_enter Tryz.func48, Tryz.ntmps48
  go_wp2_with fail
  generalize W.heap.size = bp at *
  generalize World.alloc _ _ = w1 at *
  go_loopw [14] (fun n wr => ∃ k : Nat, k ≤ 2 ∧ n = .int .i64 k ∧ Hid (PtO B w0 wr pb q pt (blk bp (.cells (ptCs pt 4 2 2 2).toArray 83 (0, 0)) :: ss))) (fun n _ => 2 - (intOf n).toNat)
  case atStart => exact ⟨0, by omega, rfl, H⟩
  case round =>
    clear H
    obtain ⟨k, hk, rfl, H⟩ := hrel
    by_cases hlt : k < 2
    · have hkI : (k : Int) < 2 := by omega
      have b0 : wr.cell? ⟨bp, 0, none⟩ = some (.slice (some ⟨g, 0, none⟩) 4 pt.c1) := by rw [block_cell (pt_blk H.out), ← H1.out]; rfl
      go_wp2_with fail
      clear b0
      obtain ⟨wo, rfl⟩ : ∃ wo : World, wo = wr := ⟨_, rfl⟩
      go_loopw [6, 20] (fun v n wr => ∃ j : Nat, j ≤ 4 ∧ v = nilS ∧ n = .int .i64 j ∧ Hid (PtO B w0 wr pb q pt (blk bp (.cells (ptCs pt 4 2 2 2).toArray 83 (0, 0)) :: ss))) (fun _ n _ => 4 - (intOf n).toNat)
      case atStart => exact ⟨0, by omega, rfl, rfl, H⟩
      case round =>
        clear H
        obtain ⟨j, hj, rfl, rfl, H⟩ := hrel
        by_cases hlj : j < 4
        · have hjI : (j : Int) < 4 := by omega
          have hj0 : (0 : Int) ≤ (j : Int) := by omega
          have hp := pt_at H.out
          obtain ⟨p, hpk⟩ : ∃ p, (pt.ys.map (·.p))[j]? = some p := ⟨_, List.getElem?_eq_getElem (by have := HN.out; simp at this ⊢; omega)⟩
          obtain ⟨g', e1, -, -, h4⟩ := hp.r1
          have hgg : g' = g := by
            have := e1.symm.trans H1.out
            simpa using this
          subst hgg
          have ck := h4 j (ptrV p) (by
            rw [List.getElem?_map] at hpk ⊢
            cases hy : pt.ys[j]? with
            | none => rw [hy] at hpk; cases hpk
            | some y => rw [hy] at hpk; simp at hpk ⊢; exact hpk)
          obtain ⟨rest, hc, hback⟩ := pt_pick H.out hpk
          have HC := Lib.hid (node_committed hc k hlt)
          have HB := Lib.hid hback
          clear hp hpk e1 h4 hc hback
          go_wp2_with fail
          refine HC.out.mono ?_
          rintro e w2 ⟨rfl, h2⟩
          have H2 := Lib.hid (HB.out _ h2)
          clear h2 ck HC
          go_wp2_with fail
          go_roundw
          case rel => exact ⟨j + 1, by omega, rfl, by go_num, H2⟩
          case measure => simp [intOf]; omega
        · have hjI : decide ((j : Int) < 4) = false := by simp; omega
          go_wp2_with fail
          go_loopw [32] (fun n wr => n = .int .i64 0 ∧ Hid (PtO B w0 wr pb q pt (blk bp (.cells (ptCs pt 4 2 2 2).toArray 83 (0, 0)) :: ss))) (fun _ _ => 0)
          case atStart => exact ⟨rfl, H⟩
          case round =>
            clear H
            obtain ⟨rfl, H⟩ := hrel
            go_wp2_with fail
            go_roundw
            case rel => exact ⟨k + 1, by omega, by go_num, H⟩
            case measure => simp [intOf]; omega
    · have hkI : decide ((k : Int) < 2) = false := by simp; omega
      go_wp2_with fail
      go_ret
      exact ⟨rfl, pt_drop H.out⟩

theorem rule7 (h : PtO B w0 W pb q pt ss) : Calls Tryz.prog 47 #[ptrV pb, ptrV q] W (RuleP B w0 pb q pt ss) := by
  have hp := pt_at h
  have HC := Lib.hid (alike_z h)
  have q0 := hp.q0
  obtain ⟨p0, p1, p2, p3, p4⟩ := pt_cells hp
  clear hp h
  go_enter Tryz.func47, Tryz.ntmps47
  go_wp2_with fail
  refine HC.out.mono ?_
  rintro e w' ⟨rfl, h⟩
  have H := Lib.hid h
  clear p0 p1 p2 p3 p4 HC h q0
  go_wp2_with fail
  go_ret
  exact ⟨rfl, H.out⟩

theorem own_dropL : ∀ (l : List Res) {ss : List Res}, Own B w0 W (l ++ ss) → Own B w0 W ss
  | [], _, h => h
  | _ :: l, _, h => own_dropL l h.drop

abbrev rulesA (pb q : Nat) : Array Value := #[.func (.func 36) #[] #[ptrV pb], .func (.func 37) #[] #[ptrV pb], .func (.func 39) #[] #[ptrV pb, ptrV q], .func (.func 41) #[] #[ptrV pb, ptrV q], .func (.func 43) #[] #[ptrV pb], .func (.func 45) #[] #[ptrV pb], .func (.func 47) #[] #[ptrV pb, ptrV q]]

set_option maxHeartbeats 4000000 in
set_option maxRecDepth 100000 in
/-- An audit of a new cluster finds nothing. -/
theorem audit_cluster {x : Cr} (h : Own B w0 W (crL x ++ ss)) (hk : CrOk x 4 2) :
    Calls Tryz.prog 24 #[.pointer (some ⟨x.p, 0, none⟩), cfgV] W fun e w' => e = .returned (.int .i64 0) ∧ Own B w0 w' ss := by
  have h0 := h.alloc cfgO
  have h1 : Own B w0 (W.alloc cfgO) (crL x ++ ([blk W.heap.size cfgO] ++ ss)) := own_back [blk W.heap.size cfgO] (l := crL x) (h.box cfgO)
  have HC := Lib.hid (audit_of h1 hk)
  have hb := heap_alloc_new W cfgO
  have d0 : CfgAt (W.alloc cfgO) W.heap.size := cfg_range (range_blk hb)
  clear h h0 h1 hk hb
  go_enter Tryz.func24, Tryz.ntmps24
  go_wp2_with fail
  clear d0
  refine HC.out.mono ?_
  rintro e w1 ⟨pt, he, hpk, h2⟩
  have he : e = .returned (.agg #[.slice pt.a1 4 pt.c1, .slice pt.a2 4 pt.c2, .slice pt.a3 2 pt.c3, .slice pt.a4 2 pt.c4, .slice pt.a5 2 pt.c5]) := he
  subst he
  have HPK := Lib.hid hpk
  have h3 : Own B w0 (w1.alloc (.cells (ptCs pt 4 2 2 2).toArray 83)) (segR w1.heap.size 83 (ptCs pt 4 2 2 2) :: (ptL pt 4 4 2 2 2 ++ (pt.ys.map cnR ++ ([blk W.heap.size cfgO] ++ ss)))) := own_toSeg (h2.box (.cells (ptCs pt 4 2 2 2).toArray 83 (0, 0))) rfl
  have h4 : PtO B w0 (w1.alloc (.cells (ptCs pt 4 2 2 2).toArray 83)) w1.heap.size W.heap.size pt ss := ⟨pt.ys, rfl, hpk.ys, h3.perm (by
    have q1 := (List.perm_append_comm_assoc (segR w1.heap.size 83 (ptCs pt 4 2 2 2) :: ptL pt 4 4 2 2 2) (pt.ys.map cnR) ([blk W.heap.size cfgO] ++ ss))
    refine q1.trans (List.Perm.append_left _ (List.Perm.cons _ ?_))
    exact List.perm_append_comm_assoc (ptL pt 4 4 2 2 2) [blk W.heap.size cfgO] ss)⟩
  have H4 := Lib.hid h4
  clear h2 hpk HC h3 h4
  generalize W.heap.size = q at *
  go_upto_region 2 with fail
  generalize w1.heap.size = pb at *
  generalize World.alloc w1 _ = w2 at *
  have HI0 : Hid (∀ w : World, (Instr.index 89 (.agg (rulesA pb q)) (.int .i64 0)).run Tryz.prog w = .ok (.func (.func 36) #[] #[ptrV pb]) w) := Lib.hid (fun _ => by kernel_rfl)
  have HI1 : Hid (∀ w : World, (Instr.index 89 (.agg (rulesA pb q)) (.int .i64 1)).run Tryz.prog w = .ok (.func (.func 37) #[] #[ptrV pb]) w) := Lib.hid (fun _ => by kernel_rfl)
  have HI2 : Hid (∀ w : World, (Instr.index 89 (.agg (rulesA pb q)) (.int .i64 2)).run Tryz.prog w = .ok (.func (.func 39) #[] #[ptrV pb, ptrV q]) w) := Lib.hid (fun _ => by kernel_rfl)
  have HI3 : Hid (∀ w : World, (Instr.index 89 (.agg (rulesA pb q)) (.int .i64 3)).run Tryz.prog w = .ok (.func (.func 41) #[] #[ptrV pb, ptrV q]) w) := Lib.hid (fun _ => by kernel_rfl)
  have HI4 : Hid (∀ w : World, (Instr.index 89 (.agg (rulesA pb q)) (.int .i64 4)).run Tryz.prog w = .ok (.func (.func 43) #[] #[ptrV pb]) w) := Lib.hid (fun _ => by kernel_rfl)
  have HI5 : Hid (∀ w : World, (Instr.index 89 (.agg (rulesA pb q)) (.int .i64 5)).run Tryz.prog w = .ok (.func (.func 45) #[] #[ptrV pb]) w) := Lib.hid (fun _ => by kernel_rfl)
  have HI6 : Hid (∀ w : World, (Instr.index 89 (.agg (rulesA pb q)) (.int .i64 6)).run Tryz.prog w = .ok (.func (.func 47) #[] #[ptrV pb, ptrV q]) w) := Lib.hid (fun _ => by kernel_rfl)
  have H5 := Lib.hid (H4.out.upd ((Upd.refl _ _).alloc (.cells (rulesA pb q) 89)))
  clear H4
  go_wp2_with fail
  generalize World.alloc w2 _ = w3 at *
  go_loopw [21] (fun n wr => ∃ k : Nat, k ≤ 7 ∧ n = .int .i64 k ∧ Hid (PtO B w0 wr pb q pt ss)) (fun n _ => 7 - (intOf n).toNat)
  case atStart => exact ⟨0, by omega, rfl, H5⟩
  case round =>
    clear H5
    obtain ⟨k, hk, rfl, H⟩ := hrel
    have hc : k = 0 ∨ k = 1 ∨ k = 2 ∨ k = 3 ∨ k = 4 ∨ k = 5 ∨ k = 6 ∨ k = 7 := by omega
    rcases hc with rfl | rfl | rfl | rfl | rfl | rfl | rfl | rfl
    · have hi := HI0.out
      have HC := Lib.hid (rule1 H.out HPK.out)
      clear H hk
      rw [show ((0 : Nat) : Int) = 0 from rfl]
      go_wp2_with fail
      refine HC.out.mono ?_
      rintro e w4 ⟨rfl, h4⟩
      have H4 := Lib.hid h4
      clear h4 HC hi
      go_wp2_with fail
      go_roundw
      case rel => exact ⟨1, by omega, rfl, H4⟩
      case measure => simp [intOf]
    · have hi := HI1.out
      have HC := Lib.hid (rule2 H.out HPK.out)
      clear H hk
      rw [show ((1 : Nat) : Int) = 1 from rfl]
      go_wp2_with fail
      refine HC.out.mono ?_
      rintro e w4 ⟨rfl, h4⟩
      have H4 := Lib.hid h4
      clear h4 HC hi
      go_wp2_with fail
      go_roundw
      case rel => exact ⟨2, by omega, rfl, H4⟩
      case measure => simp [intOf]
    · have hi := HI2.out
      have HC := Lib.hid (rule3 H.out HPK.out)
      clear H hk
      rw [show ((2 : Nat) : Int) = 2 from rfl]
      go_wp2_with fail
      refine HC.out.mono ?_
      rintro e w4 ⟨rfl, h4⟩
      have H4 := Lib.hid h4
      clear h4 HC hi
      go_wp2_with fail
      go_roundw
      case rel => exact ⟨3, by omega, rfl, H4⟩
      case measure => simp [intOf]
    · have hi := HI3.out
      have HC := Lib.hid (rule4 H.out)
      clear H hk
      rw [show ((3 : Nat) : Int) = 3 from rfl]
      go_wp2_with fail
      refine HC.out.mono ?_
      rintro e w4 ⟨rfl, h4⟩
      have H4 := Lib.hid h4
      clear h4 HC hi
      go_wp2_with fail
      go_roundw
      case rel => exact ⟨4, by omega, rfl, H4⟩
      case measure => simp [intOf]
    · have hi := HI4.out
      have HC := Lib.hid (rule5 H.out HPK.out)
      clear H hk
      rw [show ((4 : Nat) : Int) = 4 from rfl]
      go_wp2_with fail
      refine HC.out.mono ?_
      rintro e w4 ⟨rfl, h4⟩
      have H4 := Lib.hid h4
      clear h4 HC hi
      go_wp2_with fail
      go_roundw
      case rel => exact ⟨5, by omega, rfl, H4⟩
      case measure => simp [intOf]
    · have hi := HI5.out
      have HC := Lib.hid (rule6 H.out HPK.out)
      clear H hk
      rw [show ((5 : Nat) : Int) = 5 from rfl]
      go_wp2_with fail
      refine HC.out.mono ?_
      rintro e w4 ⟨rfl, h4⟩
      have H4 := Lib.hid h4
      clear h4 HC hi
      go_wp2_with fail
      go_roundw
      case rel => exact ⟨6, by omega, rfl, H4⟩
      case measure => simp [intOf]
    · have hi := HI6.out
      have HC := Lib.hid (rule7 H.out)
      clear H hk
      rw [show ((6 : Nat) : Int) = 6 from rfl]
      go_wp2_with fail
      refine HC.out.mono ?_
      rintro e w4 ⟨rfl, h4⟩
      have H4 := Lib.hid h4
      clear h4 HC hi
      go_wp2_with fail
      go_roundw
      case rel => exact ⟨7, by omega, rfl, H4⟩
      case measure => simp [intOf]
    · rw [show ((7 : Nat) : Int) = 7 from rfl]
      go_wp2_with fail
      go_ret
      obtain ⟨ys, -, -, h5⟩ := H.out
      refine ⟨rfl, ?_⟩
      have h6 := h5.perm (List.perm_append_comm_assoc (ys.map cnR) (segR pb 83 (ptCs pt 4 2 2 2) :: blk q cfgO :: ptL pt 4 4 2 2 2) ss)
      exact own_dropL _ h6.drop.drop.drop.drop.drop.drop.drop

end
end Go.Proofs.YtimdphlolmbhnaaGreat

/- The document's cluster, when it is new: nodes, clients. -/
namespace Go.Heap
open Go Go.RowKit

/-- A block of at least n cells, of which some are known. -/
def partR (b : Nat) (T : TypeId) (n : Nat) (l : List (Nat × Value)) : Res where
  M := [b]
  Q := fun w D => (∃ cur, w.heap[b]? = some (.cells cur T (0, 0)) ∧ n ≤ cur.size ∧ ∀ x ∈ l, cur[x.1]? = some x.2) ∧ D = []
  dep := fun ⟨⟨cur, h1, h2⟩, e⟩ hk _ => ⟨⟨cur, (hk _ (by simp)).trans h1, h2⟩, e⟩
  lt := fun ⟨⟨cur, h1, h2⟩, e⟩ k hk => by subst e; simp at hk; subst hk; exact block_lt h1
  sep := fun ⟨_, e⟩ k _ hn => by rw [e] at hn; simp at hn

section
variable {W W' w0 : World} {rs ss : List Res} {B b n : Nat} {T : TypeId} {l : List (Nat × Value)}

theorem part_at {A : List Nat} (h : (partR b T n l).At W A) : (∀ i, i < n → (∃ v, W.cell? ⟨b, i, none⟩ = some v) ∧ W.frozen? ⟨b, i, none⟩ = false) ∧ ∀ x ∈ l, W.cell? ⟨b, x.1, none⟩ = some x.2 := by
  obtain ⟨D, ⟨⟨cur, h1, h2, h3⟩, -⟩, -, -⟩ := h
  refine ⟨fun i hi => ⟨⟨cur[i]'(by omega), ?_⟩, block_frozen h1 _⟩, fun x hx => by rw [block_cell h1]; exact h3 x hx⟩
  rw [block_cell h1, Array.getElem?_eq_getElem]

theorem Own.toPart {cs : Array Value} (h : Own B w0 W (blk b (.cells cs T (0, 0)) :: rs)) (hn : n ≤ cs.size) (hl : ∀ x ∈ l, cs[x.1]? = some x.2) : Own B w0 W (partR b T n l :: rs) :=
  h.alter ⟨[], ⟨⟨cs, h.blk_out, hn, hl⟩, rfl⟩, by simp, fun k hk => h.lt k hk⟩ (fun k hk => hk)

theorem Own.putPart (h : Own B w0 W (partR b T n l :: rs)) (i : Nat) (v : Value) (hi : i < n) : Own B w0 (W.setCell ⟨b, i, none⟩ v) (partR b T n ((i, v) :: l.filter fun x => x.1 != i) :: rs) := by
  have hu : Upd [b] W (W.setCell ⟨b, i, none⟩ v) := (Upd.refl _ _).setCell (.inl (by simp)) v
  obtain ⟨D, ⟨⟨cur, h1, h2, h3⟩, rfl⟩, h4, h5⟩ := h.head
  refine h.step (r' := partR b T n ((i, v) :: l.filter fun x => x.1 != i)) hu ⟨[], ⟨⟨cur.setIfInBounds i v, by rw [hp_same rfl, h1]; rfl, by simpa using h2, fun x hx => ?_⟩, rfl⟩, by simp, fun k hk => by rw [hs_set]; exact h5 k hk⟩ (fun k hk => .inl hk)
  rcases List.mem_cons.1 hx with rfl | hx
  · rw [Array.getElem?_setIfInBounds_self, if_pos (by omega)]
  · simp only [List.mem_filter, bne_iff_ne, ne_eq] at hx
    rw [Array.getElem?_setIfInBounds_ne (fun e => hx.2 e.symm)]
    exact h3 x hx.1

theorem set_cells_blk {b : Nat} {T : TypeId} : ∀ (vs : List Value) (o : Nat) (w : World) (cur : Array Value), w.heap[b]? = some (.cells cur T (0, 0)) → ∃ cur', (w.setCells b o vs).heap[b]? = some (.cells cur' T (0, 0)) ∧ cur'.size = cur.size ∧ ∀ j, (j < o ∨ o + vs.length ≤ j) → cur'[j]? = cur[j]?
  | [], o, w, cur, h => ⟨cur, h, rfl, fun _ _ => rfl⟩
  | v :: vs, o, w, cur, h => by
    have h1 : (w.setCell ⟨b, o, none⟩ v).heap[b]? = some (.cells (cur.setIfInBounds o v) T (0, 0)) := by rw [hp_same rfl, h]; rfl
    obtain ⟨cur', e1, e2, e3⟩ := set_cells_blk vs (o + 1) _ _ h1
    refine ⟨cur', e1, by simpa using e2, fun j hj => ?_⟩
    rw [e3 j (by simp at hj; omega), Array.getElem?_setIfInBounds_ne (by simp at hj; omega)]

theorem upd_setC {b : Nat} : ∀ (vs : List Value) (o : Nat) (w0 w : World), Upd [b] w0 w → Upd [b] w0 (w.setCells b o vs)
  | [], _, _, _, h => h
  | v :: vs, o, w0, w, h => upd_setC vs (o + 1) w0 _ (h.setCell (.inl (by simp)) v)

/-- Many cells are stored, none that is known. -/
theorem Own.putMany (h : Own B w0 W (partR b T n l :: rs)) (o : Nat) (vs : List Value) (hl : ∀ x ∈ l, x.1 < o ∨ o + vs.length ≤ x.1) : Own B w0 (W.setCells b o vs) (partR b T n l :: rs) := by
  have hu : Upd [b] W (W.setCells b o vs) := upd_setC vs o _ _ (Upd.refl _ _)
  obtain ⟨D, ⟨⟨cur, h1, h2, h3⟩, rfl⟩, h4, h5⟩ := h.head
  obtain ⟨cur', e1, e2, e3⟩ := set_cells_blk vs o W cur h1
  exact h.step (r' := partR b T n l) hu ⟨[], ⟨⟨cur', e1, by omega, fun x hx => (e3 _ (hl x hx)).trans (h3 x hx)⟩, rfl⟩, by simp, fun k hk => Nat.lt_of_lt_of_le (h5 k hk) hu.size⟩ (fun k hk => .inl hk)
theorem part_there {A : List Nat} (h : (partR b T n l).At W A) {o k : Nat} (hk : o + k ≤ n) : W.there b o k := fun j hj => by
  obtain ⟨h1, -⟩ := part_at h
  obtain ⟨⟨v, hv⟩, hz⟩ := h1 (o + j) (by omega)
  exact ⟨by rw [hv]; rfl, hz⟩
end
end Go.Heap
namespace Go.Proofs.YtimdphlolmbhnaaGreat
open Go.RowKit Go.Heap

section
variable {B : Nat} {w0 w W W' : World} {ss rs : List Res}

theorem rclient_new (id : Int) (h0 : 0 ≤ id) (h2 : id < 2) (nv : Nat) (w : World) :
    Calls Tryz.prog 68 #[cfgV, .int .i64 id, ptrV nv] w fun e w' => ∃ p, e = .returned (.tuple #[.pointer (some ⟨p, 0, none⟩), .int .i64 0]) ∧ Upd [] w w' := by
  go_enter Tryz.func68, Tryz.ntmps68
  go_wp2_with fail
  have hb := heap_alloc_new w cfgO
  refine (rvalid _).mono ?_
  rintro e w2 ⟨rfl, hu⟩
  have hr := range_upd hu (range_blk hb)
  have d0 : CfgAt w2 w.heap.size := cfg_range hr
  have HU := Lib.hid (((Upd.refl [] w).alloc cfgO).trans hu)
  clear hu hb hr
  go_wp2_with fail
  go_ret2
  exact ⟨_, rfl, HU.out.alloc _⟩

def AllOne (cs : Array Value) : Prop := ∀ u ∈ cs.toList, u.oneCell' = true
theorem AllOne.set {cs : Array Value} (h : AllOne cs) (i : Nat) (v : Value) (hv : v.oneCell' = true) : AllOne (cs.setIfInBounds i v) := by
  intro u hu
  rw [Array.toList_setIfInBounds] at hu
  rcases List.mem_or_eq_of_mem_set hu with hu | rfl
  · exact h u hu
  · exact hv

abbrev chgZ (f : Int) : Array Value := #[.int .i64 f, .int .i64 0, .int .i64 0, .int .i64 0, .int .i64 0, .int .i64 0, .int .i64 0, .int .i64 0, .int .i64 0, .int .i64 0, .int .i64 0, .int .i64 0, .int .i64 0, .int .i64 0, .int .i64 0, .int .i64 0, .int .i64 0, .int .i64 0, .int .i64 0, .int .i64 0, .int .i64 0, .int .i64 0, .int .i64 0, .int .i64 0, .int .i64 0, .int .i64 0, .int .i64 0]
theorem chg_one (f : Int) : AllOne (chgZ f) := by
  intro v hv
  have : ((chgZ f).toList.all (·.oneCell')) = true := by rfl
  exact List.all_eq_true.1 this v hv

theorem rchanges_new (f : Int) (h : Own B w0 W ss) :
    Calls Tryz.prog 93 #[.int .i64 f] W fun e w' => ∃ p cs, e = .returned (.pointer (some ⟨p, 0, none⟩)) ∧ cs.size = 27 ∧ AllOne cs ∧ Own B w0 w' (blk p (.cells cs 205 (0, 0)) :: ss) := by
  have H := Lib.hid h
  clear h
  go_enter Tryz.func93, Tryz.ntmps93
  go_wp2_with fail
  have H1 := Lib.hid (H.out.box (.cells (chgZ f) 205 (0, 0)))
  have HS : Hid (∃ cs, cs.size = 27 ∧ AllOne cs ∧ Own B w0 (W.alloc (.cells (chgZ f) 205 (0, 0))) (blk W.heap.size (.cells cs 205 (0, 0)) :: ss)) := Lib.hid ⟨_, rfl, chg_one f, H1.out⟩
  clear H1 H
  generalize W.heap.size = p at *
  generalize W.alloc (.cells (chgZ f) 205 (0, 0)) = w1 at *
  go_loopw [4] (fun n wr => ∃ k : Nat, k ≤ 13 ∧ n = .int .i64 k ∧ Hid (∃ cs, cs.size = 27 ∧ AllOne cs ∧ Own B w0 wr (blk p (.cells cs 205 (0, 0)) :: ss))) (fun n _ => 13 - (intOf n).toNat)
  case atStart => exact ⟨0, by omega, rfl, HS⟩
  case round =>
    clear HS
    obtain ⟨k, hk, rfl, HM⟩ := hrel
    obtain ⟨cs, h1, h2, h3⟩ := HM.out
    by_cases hlt : k < 13
    · have hkI : (k : Int) < 13 := by omega
      have hb := h3.blkAt 0 (b := p) (o := .cells cs 205 (0, 0)) rfl
      obtain ⟨v0, p1⟩ : ∃ v0, wr.cell? ⟨p, 1 + k, none⟩ = some v0 := ⟨_, (block_cell hb (1 + k)).trans (Array.getElem?_eq_getElem (by omega))⟩
      have p2 := block_frozen hb (1 + k)
      have HZ : Hid (∃ cs, cs.size = 27 ∧ AllOne cs ∧ Own B w0 (wr.setCell ⟨p, 1 + k, none⟩ (.int .i64 (-1))) (blk p (.cells cs 205 (0, 0)) :: ss)) := Lib.hid ⟨cs.setIfInBounds (1 + k) (.int .i64 (-1)), by simpa using h1, h2.set _ _ rfl, h3.store _ _⟩
      clear h1 h2 h3 hb HM
      go_wp2_with fail
      clear p1 p2
      go_roundw
      case rel => exact ⟨k + 1, by omega, by go_num, HZ⟩
      case measure => simp [intOf]; omega
    · have hk2 : k = 13 := by omega
      subst hk2
      rw [show ((13 : Nat) : Int) = 13 from rfl]
      clear h1 h2 h3
      go_wp2_with fail
      go_ret
      obtain ⟨cs, h1, h2, h3⟩ := HM.out
      exact ⟨p, cs, rfl, h1, h2, h3⟩

end
end Go.Proofs.YtimdphlolmbhnaaGreat

/- The document's node, when it is new. -/
namespace Go.Proofs.YtimdphlolmbhnaaGreat
open Go.RowKit Go.Heap

/-- A slice literal of one aggregate: just its cells. -/
theorem built_one {P : Program} {e : TypeId} {z : Value} {n b : Nat} {cs : Array Value} (hi : (P.info? e).map (fun i => (i.zero, i.size, i.bytes)) = some (some z, n, b)) (h0 : 0 < n) (h1 : n ≤ 2 ^ 24) (hc : cs.size = n) : P.builtSlice e 1 [(0, .agg cs)] = some cs := by
  obtain ⟨i, e1, e2, e3, e4⟩ := info_parts hi
  unfold Program.builtSlice
  simp only [e1, e2, e3, Nat.one_mul]
  rw [if_neg (by omega)]
  obtain ⟨r, hr, hs, hk⟩ := Great.fill_dense h0 [Value.agg cs] 0 ((Array.range n).map (z.cells[· % z.cells.size]!)) (by intro v hv; simp at hv; subst hv; exact hc) (by simp)
  simp only [List.zipIdx_cons, List.zipIdx_nil, List.map_cons, List.map_nil] at hr
  rw [hr]
  congr 1
  refine Array.ext_getElem? (fun k => ?_)
  rw [hk k]
  by_cases hlt : k < n
  · rw [if_pos ⟨by omega, by simpa using hlt⟩]
    have d1 : k / n = 0 := Nat.div_eq_of_lt hlt
    have d2 : k % n = k := Nat.mod_eq_of_lt hlt
    simp [d1, d2, Value.cells]
  · rw [if_neg (by simp; omega), Array.getElem?_eq_none (by simp; omega), Array.getElem?_eq_none (by omega)]

theorem wpList_buildOne {P : Program} {ops : Array Oper} {rest : List Oper} {o : Oper} {a : Act} {w : World} {Q : Exit → Act → World → Prop} (hg : o.guard = none) (t e : TypeId) (x : Operand) (ho : o.op = .buildSlice t 1 #[(0, x)])
    {z : Value} {n b : Nat} (hu : P.underlying t = some (.slice e)) (hi : (P.info? e).map (fun i => (i.zero, i.size, i.bytes)) = some (some z, n, b)) (h0 : 0 < n) (h1 : n ≤ 2 ^ 24) (cs : Array Value) (hc : cs.size = n) (hx : a.eval x = .agg cs)
    (h : wpList P ops Q rest (a.put o.dst (.slice (some ⟨w.heap.size, 0, none⟩) 1 1)) (w.alloc (.cells cs e))) : wpList P ops Q (o :: rest) a w := by
  refine Great.wpList_buildSliceTo hg t e 1 #[(0, x)] ho _ rfl _ rfl hu cs ?_ h
  have e1 : (#[(0, x)].map fun (i, x) => (i, a.eval x)).toList = [(0, a.eval x)] := by simp
  rw [e1, hx]
  exact built_one hi h0 h1 hc

section
variable {B : Nat} {w0 w W W' : World} {ss rs : List Res}

theorem Tryz.infoRi : (Tryz.prog.info? 228).map (fun i => (i.zero, i.size, i.bytes)) = some (some (.agg Tryz.zeroCells228), 294, 3912) := by kernel_rfl
theorem Tryz.infoRm : (Tryz.prog.info? 230).map (fun i => (i.zero, i.size, i.bytes)) = some (some (.agg #[.int .i64 0, .int .i64 0]), 2, 16) := by kernel_rfl
theorem Tryz.zs220 : Nat.ble 275 Tryz.zeroCells220.size = true := by kernel_rfl
theorem Tryz.z220_20 : Tryz.zeroCells220[20]? = some (.slice none 0 0) := by kernel_rfl
theorem Tryz.z220_274 : Tryz.zeroCells220[274]? = some (.slice none 0 0) := by kernel_rfl
theorem Tryz.zs228 : Tryz.zeroCells228.size = 294 := by kernel_rfl
theorem Tryz.zo228 : (Tryz.zeroCells228.all (·.oneCell')) = true := by kernel_rfl

theorem Tryz.szTab : (Tryz.prog.info? 202).map (·.size) = some (#[Value.int .i64 1, .int .i64 2, .slice none 0 0] : Array Value).size := by kernel_rfl
theorem Tryz.szChg : (Tryz.prog.info? 205).map (·.size) = some 27 := by kernel_rfl
theorem Tryz.szLed : (Tryz.prog.info? 31).map (·.size) = some (Tryz.zeroCells31.setIfInBounds 0 (.int .i64 2)).size := by kernel_rfl
theorem Tryz.zsLed : (Tryz.zeroCells31.setIfInBounds 0 (.int .i64 2)).size = 138 := by kernel_rfl
theorem Tryz.zoLed : ((Tryz.zeroCells31.setIfInBounds 0 (.int .i64 2)).all (·.oneCell')) = true := by kernel_rfl
theorem tab_one : (#[Value.int .i64 1, .int .i64 2, .slice none 0 0] : Array Value).all (·.oneCell') = true := by kernel_rfl
theorem ri_one : AllOne Tryz.zeroCells228 := by
  intro v hv
  have h := Tryz.zo228
  rw [Array.all_eq_true_iff_forall_mem] at h
  exact h v (by simpa using hv)

theorem _root_.Go.Heap.Own.partSub {b n : Nat} {T : TypeId} {l l' : List (Nat × Value)} (h : Own B w0 W (partR b T n l :: rs)) (hs : ∀ x ∈ l', x ∈ l) : Own B w0 W (partR b T n l' :: rs) := by
  obtain ⟨D, ⟨⟨cur, h1, h2, h3⟩, rfl⟩, h4, h5⟩ := h.head
  exact h.alter ⟨[], ⟨⟨cur, h1, h2, fun x hx => h3 x (hs x hx)⟩, rfl⟩, h4, h5⟩ (fun k hk => hk)

theorem part_get {rs : List Res} {b n : Nat} {T : TypeId} {l : List (Nat × Value)} (h : Own B w0 W rs) (k : Nat) (e : rs[k]? = some (partR b T n l)) {x : Nat × Value} (hx : x ∈ l) (hn : x.1 < n) : W.cell? ⟨b, x.1, none⟩ = some x.2 ∧ W.frozen? ⟨b, x.1, none⟩ = false := by
  obtain ⟨h1, h2⟩ := part_at (h.get k e)
  exact ⟨h2 x hx, (h1 _ hn).2⟩

/-- The document's node that is being made. -/
def RndMk (B : Nat) (w0 w : World) (p q k : Nat) (ss : List Res) : Prop :=
  ∃ (a1 a2 : Option Addr) (c1 c2 : Nat) (x1 x2 : List Value), Own B w0 w (partR p 220 275 [(20, .slice a1 k c1), (274, .slice a2 k c2)] :: ownR 228 294 (.slice a1 k c1) k x1 :: ownR 230 2 (.slice a2 k c2) k x2 :: blk q cfgO :: ss)

set_option maxHeartbeats 4000000 in
set_option maxRecDepth 100000 in
theorem rnode_new (id : Int) (h0 : 0 ≤ id) (h2 : id < 4) (nv : Nat) (h : Own B w0 W ss) :
    Calls Tryz.prog 67 #[cfgV, .int .i64 id, ptrV nv] W fun e w' => ∃ p, e = .returned (.tuple #[.pointer (some ⟨p, 0, none⟩), .int .i64 0]) ∧ Own B w0 w' ss := by
  have H := Lib.hid h
  clear h
  go_enter Tryz.func67, Tryz.ntmps67
  go_wp2_with fail
  have hb := heap_alloc_new W cfgO
  have H1 := Lib.hid (H.out.box cfgO)
  generalize hq : W.heap.size = q at *
  generalize W.alloc (.cells cfgCs 57) = w1 at *
  refine (rvalid _).mono ?_
  rintro e w2 ⟨rfl, hu⟩
  have H2 := Lib.hid (H1.out.upd0 hu)
  have HR := Lib.hid (range_upd hu (range_blk hb))
  clear hu hb H1 H
  have q0 := range_get HR.out 0 rfl
  go_wp2_with fail
  refine (rnodes_one _).mono ?_
  rintro e w' ⟨rfl, rfl⟩
  clear q0
  have d0 : CfgAt w2 q := cfg_range HR.out
  go_upto_region 4 with fail
  have H3 := Lib.hid (fun o => H2.out.box o)
  clear d0
  generalize hcs : Array.setIfInBounds _ 271 (Value.int .i64 (-1)) = cs
  have hz : 275 ≤ cs.size := by
    rw [← hcs]
    simp only [Array.size_setIfInBounds]
    exact Nat.le_of_ble_eq_true Tryz.zs220
  have hl : ∀ x ∈ [(20, nilS), (274, nilS)], cs[x.1]? = some x.2 := by
    intro x hx
    rw [← hcs]
    simp only [List.mem_cons, List.not_mem_nil, or_false] at hx
    rcases hx with rfl | rfl
    · repeat rw [Array.getElem?_setIfInBounds_ne (by decide)]
      exact Tryz.z220_20
    · repeat rw [Array.getElem?_setIfInBounds_ne (by decide)]
      exact Tryz.z220_274
  have H4 := Lib.hid ((H3.out (.cells cs 220 (0, 0))).toPart (n := 275) (l := [(20, nilS), (274, nilS)]) hz hl)
  clear hz hl hcs H3 H2 HR
  generalize w2.heap.size = p at *
  generalize w2.alloc _ = w3 at *
  have HL : Hid (RndMk B w0 w3 p q 0 ss) := Lib.hid ⟨none, none, 0, 0, [], [], (((H4.out.row0 (E := 230) (sz := 2)).row0 (E := 228) (sz := 294)).bring 2 rfl).perm (by exact List.Perm.refl _)⟩
  clear H4
  obtain ⟨i0, hi, hx0, hx1, hx2⟩ := info_parts Tryz.infoRi
  obtain ⟨m0, hm, hy0, hy1, hy2⟩ := info_parts Tryz.infoRm
  go_wp2_with fail
  go_loopw [9] (fun n wr => ∃ k : Nat, k ≤ 2 ∧ n = .int .i64 k ∧ Hid (RndMk B w0 wr p q k ss)) (fun n _ => 2 - (intOf n).toNat)
  case atStart => exact ⟨0, by omega, rfl, HL⟩
  case round =>
    clear HL
    obtain ⟨k, hk, rfl, HM⟩ := hrel
    obtain ⟨a1, a2, c1, c2, x1, x2, ho⟩ := HM.out
    have HO := Lib.hid ho
    clear HM ho
    obtain ⟨q0, -⟩ := blk_at' HO.out 3 (b := q) (T := 57) (cs := cfgCs) rfl 0 (v := .int .i64 1) rfl
    by_cases hlt : k < 2
    · have hkI : (k : Int) ≤ 1 := by omega
      go_upto_region 7 with fail
      have hD := HO.out.drew
      obtain ⟨d0, -⟩ := blk_at' hD 3 (b := q) (T := 57) (cs := cfgCs) rfl 0 (v := .int .i64 1) rfl
      obtain ⟨d3, -⟩ := blk_at' hD 3 (b := q) (T := 57) (cs := cfgCs) rfl 3 (v := .int .i64 4) rfl
      obtain ⟨d20, z20⟩ := part_get hD 0 rfl (x := (20, .slice a1 k c1)) (by simp) (show 20 < 275 by decide)
      refine Held.wp_held [(p, 20, [.slice a1 k c1]), (q, 0, [.int .i64 1]), (q, 3, [.int .i64 4])] [(4, 0), (6, 1), (9, 2)] [15] [(13, true)] (by kernel_rfl) (by kernel_rfl) ⟨⟨d20, trivial⟩, ⟨d0, trivial⟩, ⟨d3, trivial⟩, trivial⟩ ?_
      simp only [Held.cutAt, Held.walk, List.take_succ_cons, List.take_zero, List.drop_succ_cons, List.drop_zero]
      clear q0
      obtain ⟨xs, hxs⟩ : ∃ xs, (((Tryz.zeroCells228.setIfInBounds 0 (.int .i64 1)).setIfInBounds 1 (.int .i64 k)).setIfInBounds 2 (.int .i64 4)).setIfInBounds 4 (.bool true) = xs := ⟨_, rfl⟩
      have hz : xs.size = 294 := by
        rw [← hxs]
        simp only [Array.size_setIfInBounds]
        exact Tryz.zs228
      have hl : AllOne xs := by
        rw [← hxs]
        exact ((((ri_one).set _ _ rfl).set _ _ rfl).set _ _ rfl).set _ _ rfl
      have HXS := Lib.hid (And.intro hz hl)
      have HXQ := Lib.hid hxs
      have hd := hD.alloc (.cells xs 228)
      have HD := Lib.hid hd
      have HW := Lib.hid (ownR_owns (hd.get 1 rfl))
      have HLN : Hid (xs.toList.length = 1 * 294) := Lib.hid (by simpa using hz)
      have HNW : Hid (∀ j u, xs.toList[j]? = some u → (wr.drew.alloc (.cells xs 228 (0, 0))).cell? ((⟨wr.drew.heap.size, 0, none⟩ : Addr).add j) = some u) := Lib.hid (World.news_of_block (heap_alloc_new wr.drew (.cells xs 228 (0, 0))))
      have HON := Lib.hid hl
      have HMX := Lib.hid (small_max (k := k) (by omega))
      have HM4 : Hid ((k + 1) * 3912 ≤ 140737488355328) := Lib.hid (by omega)
      have HDD := Lib.hid hD
      clear hxs hz hl hd hD
      go_wp2_with (first
        | (refine wpList_buildOne rfl 199 228 (.tmp 45) rfl Tryz.underlying199 Tryz.infoRi (by decide) (by decide) xs HXS.out.1 (by rw [← HXQ.out]; rfl) ?_)
        | (at_builtin; refine wpList_append_lies _ rfl (.tmp 39) (.tmp 46) 199 rfl 0 228 i0 (.agg Tryz.zeroCells228) 294 3912 Tryz.underlying199 hi hx0 hx1 hx2 Tryz.zs228 (by decide) _ k _ rfl HW.out ⟨wr.drew.heap.size, 0, none⟩ 1 1 xs.toList rfl HLN.out HNW.out HON.out (by decide) HMX.out HM4.out (Nat.zero_le _) _ rfl ?_))
      clear d0 d3 d20 z20
      intro g cap w4 hown hgrow hat hlt4
      have h5 := HD.out.growAt 1 rfl hgrow (by simpa using hat) hown
      have H5 := Lib.hid h5
      obtain ⟨d20, z20⟩ := part_get h5 0 rfl (x := (20, .slice a1 k c1)) (by simp) (show 20 < 275 by decide)
      obtain ⟨d0, -⟩ := blk_at' h5 3 (b := q) (T := 57) (cs := cfgCs) rfl 0 (v := .int .i64 1) rfl
      obtain ⟨d3, -⟩ := blk_at' h5 3 (b := q) (T := 57) (cs := cfgCs) rfl 3 (v := .int .i64 4) rfl
      clear hown hgrow hat hlt4 h5 HD HW HNW HON HMX HM4 HO HDD
      go_wp2_with fail
      refine ⟨⟨⟨d20, trivial⟩, ⟨d0, trivial⟩, ⟨d3, trivial⟩, trivial⟩, ?_⟩
      go_wp2_with fail
      refine ⟨trivial, by rfl, ⟨⟨rfl, .inl ⟨by kernel_rfl, rfl⟩⟩, ⟨rfl, .inl ⟨by kernel_rfl, rfl⟩⟩, ⟨rfl, .inl ⟨by kernel_rfl, rfl⟩⟩, trivial⟩, ?_⟩
      go_upto_region 8 with fail
      clear d20 z20 d0 d3
      have H6 := Lib.hid (H5.out.putPart 20 (.slice (some ⟨g, 0, none⟩) (k + 1) cap) (by decide))
      clear H5 HXS HXQ HLN
      generalize w4.setCell ⟨p, 20, none⟩ (.slice (some ⟨g, 0, none⟩) (k + 1) cap) = w5 at *
      obtain ⟨p274, z274⟩ := part_get H6.out 0 rfl (x := (274, .slice a2 k c2)) (by simp) (show 274 < 275 by decide)
      have hd := H6.out.alloc (.cells #[.int .i64 0, .int .i64 0] 230)
      have HD := Lib.hid hd
      have HW := Lib.hid (ownR_owns (hd.get 2 rfl))
      clear hd
      have HNW : Hid (∀ j u, [Value.int .i64 0, .int .i64 0][j]? = some u → (w5.alloc (.cells #[.int .i64 0, .int .i64 0] 230 (0, 0))).cell? ((⟨w5.heap.size, 0, none⟩ : Addr).add j) = some u) := Lib.hid (World.news_of_block (heap_alloc_new w5 (.cells #[.int .i64 0, .int .i64 0] 230 (0, 0))))
      have HON : Hid (∀ u ∈ [Value.int .i64 0, .int .i64 0], u.oneCell' = true) := Lib.hid (by intro u hu; simp at hu; subst hu; rfl)
      have HMX := Lib.hid (small_max (k := k) (by omega))
      have HM4 : Hid ((k + 1) * 16 ≤ 140737488355328) := Lib.hid (by omega)
      go_wp2_with (at_builtin; refine wpList_append_lies _ rfl (.tmp 54) (.tmp 56) 211 rfl 0 230 m0 (.agg #[.int .i64 0, .int .i64 0]) 2 16 Tryz.underlying211 hm hy0 hy1 hy2 rfl (by decide) _ k _ rfl HW.out ⟨w5.heap.size, 0, none⟩ 1 1 [.int .i64 0, .int .i64 0] rfl rfl HNW.out HON.out (by decide) HMX.out HM4.out (Nat.zero_le _) _ rfl ?_)
      clear p274 z274
      intro g2 cap2 w6 hown hgrow hat hlt6
      have h7 := HD.out.growAt 2 rfl hgrow (by simpa using hat) hown
      have H7 := Lib.hid h7
      obtain ⟨p274, z274⟩ := part_get h7 0 rfl (x := (274, .slice a2 k c2)) (by simp) (show 274 < 275 by decide)
      clear hown hgrow hat hlt6 h7 HD HW HNW HON HMX HM4 H6
      go_wp2_with fail
      have H8 := Lib.hid (H7.out.putPart 274 (.slice (some ⟨g2, 0, none⟩) (k + 1) cap2) (by decide))
      clear H7 p274 z274
      go_roundw
      case rel => exact ⟨k + 1, by omega, by go_num, Lib.hid ⟨some ⟨g, 0, none⟩, some ⟨g2, 0, none⟩, cap, cap2, _, _, H8.out.partSub (by simp)⟩⟩
      case measure => simp [intOf]; omega
    · have hk2 : k = 2 := by omega
      have hkI : (1 : Int) < (k : Int) := by omega
      subst hk2
      obtain ⟨q1, -⟩ := blk_at' HO.out 3 (b := q) (T := 57) (cs := cfgCs) rfl 1 (v := .int .i64 2) rfl
      have HT1 : Hid (wr.there p 21 3) := Lib.hid (part_there (HO.out.get 0 rfl) (by decide))
      go_upto_region 10 with (refine wpList_store_mid rfl 202 (.tmp 67) (.tmp 65) rfl p 21 #[.int .i64 1, .int .i64 2, .slice none 0 0] rfl rfl HT1.out Tryz.szTab tab_one ?_)
      have H9 := Lib.hid (HO.out.putMany 21 [.int .i64 1, .int .i64 2, .slice none 0 0] (by intro x hx; simp at hx; rcases hx with rfl | rfl <;> simp))
      clear HT1 q0 q1 HO
      generalize wr.setCells p 21 _ = w4 at *
      obtain ⟨q0, -⟩ := blk_at' H9.out 3 (b := q) (T := 57) (cs := cfgCs) rfl 0 (v := .int .i64 1) rfl
      have HC := Lib.hid (rchanges_new 1 H9.out)
      clear H9
      go_wp2_with fail
      refine HC.out.mono ?_
      rintro e w5 ⟨c, xs, rfl, hx3, hx4, h5⟩
      have hb := h5.blk_out
      have HRA : Hid (w5.rangeAt c 0 xs.toList) := Lib.hid (range_blk hb)
      have HI : Hid ((Tryz.prog.info? 205).map (·.size) = some xs.toList.length) := Lib.hid (by rw [Array.length_toList, hx3]; exact Tryz.szChg)
      have HI2 : Hid ((Tryz.prog.info? 205).map (·.size) = some xs.toList.toArray.size) := Lib.hid (by rw [Array.toArray_toList, hx3]; exact Tryz.szChg)
      have HALL : Hid (xs.toList.toArray.all (·.oneCell') = true) := Lib.hid (all_oneCell_toArray hx4)
      have h6 := h5.swap
      have HT2 : Hid (w5.there p 24 xs.toList.toArray.size) := Lib.hid (part_there (h6.get 0 rfl) (by rw [Array.toArray_toList, hx3]; decide))
      have H6 := Lib.hid (h6.putMany 24 xs.toList (by intro x hx; simp at hx; rcases hx with rfl | rfl <;> simp [hx3]))
      clear h5 h6 hb HC q0 hx3 hx4
      go_upto_region 11 with (first
        | (refine wpList_load_mid rfl 205 (.tmp 72) rfl c 0 rfl xs.toList _ HRA.out Tryz.underlying205 rfl HI.out ?_)
        | (refine wpList_store_mid rfl 205 (.tmp 75) (.tmp 73) rfl p 24 xs.toList.toArray rfl rfl HT2.out HI2.out HALL.out ?_))
      clear HRA HI HI2 HALL HT2
      generalize w5.setCells p 24 _ = w6 at *
      obtain ⟨q1, -⟩ := blk_at' H6.out 4 (b := q) (T := 57) (cs := cfgCs) rfl 1 (v := .int .i64 2) rfl
      have HT3 : Hid (w6.there p 51 (Tryz.zeroCells31.setIfInBounds 0 (.int .i64 2)).size) := Lib.hid (part_there (H6.out.get 0 rfl) (by rw [Tryz.zsLed]; decide))
      have H7 := Lib.hid (H6.out.putMany 51 (Tryz.zeroCells31.setIfInBounds 0 (.int .i64 2)).toList (by intro x hx; rw [Array.length_toList, Tryz.zsLed]; simp at hx; rcases hx with rfl | rfl <;> simp))
      clear H6
      go_upto_region 12 with (refine wpList_store_mid rfl 31 (.tmp 81) (.tmp 79) rfl p 51 (Tryz.zeroCells31.setIfInBounds 0 (.int .i64 2)) rfl rfl HT3.out Tryz.szLed Tryz.zoLed ?_)
      clear HT3 q1
      generalize w6.setCells p 51 _ = w7 at *
      go_wp2_with fail
      go_ret2
      exact ⟨p, rfl, H7.out.drop.drop.drop.drop.drop⟩

end
end Go.Proofs.YtimdphlolmbhnaaGreat

/- The document's cluster's small parts. -/
namespace Go.Proofs.YtimdphlolmbhnaaGreat
open Go.RowKit Go.Heap

section
variable {B : Nat} {w0 w W W' : World} {ss rs : List Res}

theorem rin_nil (n : Int) (w : World) : Calls Tryz.prog 66 #[.slice none 0 0, .int .i64 n] w fun e w' => e = .returned (.bool false) ∧ w = w' := by
  go_enter Tryz.func66, Tryz.ntmps66
  go_wp2_with fail
  go_loop [8] (fun n => n = .int .i64 0) (fun _ => 0)
  case atStart => rfl
  case round =>
    subst hrel
    go_wp2_with fail
    go_ret
    exact ⟨rfl, rfl⟩

def AllInt (xs : List Value) : Prop := ∀ v ∈ xs, ∃ i : Int, v = .int .i64 i
theorem AllInt.add {xs : List Value} (h : AllInt xs) (i : Int) : AllInt (xs ++ [.int .i64 i]) := by
  intro v hv
  rcases List.mem_append.1 hv with hv | hv
  · exact h v hv
  · simp at hv
    exact ⟨i, hv⟩

/-- The parties so far. -/
def PrMk (B : Nat) (w0 w : World) (q k : Nat) (v : Value) (ss : List Res) : Prop :=
  ∃ (a : Option Addr) (c : Nat) (xs : List Value), v = .slice a k c ∧ AllInt xs ∧ Own B w0 w (ownR 3 1 (.slice a k c) k xs :: blk q cfgO :: ss)

set_option maxRecDepth 100000 in
theorem rparties (h : Own B w0 W ss) :
    Calls Tryz.prog 69 #[cfgV] W fun e w' => ∃ a c xs, e = .returned (.slice a 6 c) ∧ AllInt xs ∧ Own B w0 w' (ownR 3 1 (.slice a 6 c) 6 xs :: ss) := by
  have H := Lib.hid h
  clear h
  go_enter Tryz.func69, Tryz.ntmps69
  go_wp2_with fail
  have H1 : Hid (PrMk B w0 (W.alloc cfgO) W.heap.size 0 nilS ss) := Lib.hid ⟨none, 0, [], rfl, by intro v hv; simp at hv, (H.out.box cfgO).row0⟩
  clear H
  generalize W.heap.size = q at *
  generalize W.alloc (.cells cfgCs 57) = w1 at *
  obtain ⟨i0, hi, hz0, hz1, hz2⟩ := info_parts Tryz.infoIn
  go_loopw [3, 4] (fun v n wr => ∃ k : Nat, k ≤ 4 ∧ n = .int .i64 k ∧ Hid (PrMk B w0 wr q k v ss)) (fun _ n _ => 4 - (intOf n).toNat)
  case atStart => exact ⟨0, by omega, rfl, H1⟩
  case round =>
    clear H1
    obtain ⟨k, hk4, rfl, HM⟩ := hrel
    obtain ⟨a, c, xs, rfl, hx, ho⟩ := HM.out
    have HO := Lib.hid ho
    have HX := Lib.hid hx
    obtain ⟨q0, -⟩ := blk_at' ho 1 (b := q) (T := 57) (cs := cfgCs) rfl 0 (v := .int .i64 1) rfl
    clear ho HM hx
    go_wp2_with fail
    refine (rnodes_one _).mono ?_
    rintro e w' ⟨rfl, rfl⟩
    by_cases hlt : k < 4
    · have hkI : (k : Int) < 4 := by omega
      have hd := HO.out.alloc (.cells #[.int .i64 k] 3)
      have HD := Lib.hid hd
      have HW := Lib.hid (ownR_owns (hd.get 0 rfl))
      clear hd q0
      go_wp2_with (at_builtin; refine wpList_append_lies _ rfl (.tmp 13) (.tmp 15) 64 rfl 0 3 i0 (.int .i64 0) 1 8 Tryz.underlying64 hi hz0 hz1 hz2 rfl (by decide) _ k _ rfl HW.out ⟨wr.heap.size, 0, none⟩ 1 1 [.int .i64 k] rfl rfl ?c1 ?c2 (by decide) ?c3 ?c4 (Nat.zero_le _) _ rfl ?c6)
      case c1 => exact World.news_of_block (heap_alloc_new wr _)
      case c2 => exact one_one rfl
      case c3 => exact small_max (by omega)
      case c4 => omega
      case c6 =>
      intro g cap w5 hown hgrow hat hlt5
      have h6 := HD.out.growAt 0 rfl hgrow (by simpa using hat) hown
      have HZ : Hid (PrMk B w0 w5 q (k + 1) (.slice (some ⟨g, 0, none⟩) (k + 1) cap) ss) := Lib.hid ⟨_, _, _, rfl, HX.out.add _, h6⟩
      clear hown hgrow hat hlt5 h6 HD HW HO HX
      go_wp2_with fail
      go_roundw
      case rel => exact ⟨k + 1, by omega, by go_num, HZ⟩
      case measure => simp [intOf]; omega
    · have hk2 : k = 4 := by omega
      have hkI : decide ((k : Int) < 4) = false := by simp; omega
      subst hk2
      rw [show ((4 : Nat) : Int) = 4 from rfl]
      have HZ : Hid (PrMk B w0 wr q (4 + 0) (.slice a 4 c) ss) := Lib.hid ⟨_, _, _, rfl, HX.out, HO.out⟩
      clear HO q0 HX
      go_wp2_with fail
      go_loopw [3, 5] (fun v n wr => ∃ k : Nat, k ≤ 2 ∧ n = .int .i64 k ∧ Hid (PrMk B w0 wr q (4 + k) v ss)) (fun _ n _ => 2 - (intOf n).toNat)
      case atStart => exact ⟨0, by omega, rfl, HZ⟩
      case round =>
        clear HZ
        obtain ⟨k, hk4, rfl, HM⟩ := hrel
        obtain ⟨a, c, xs, rfl, hx, ho⟩ := HM.out
        have HO := Lib.hid ho
        have HX := Lib.hid hx
        obtain ⟨q1, -⟩ := blk_at' ho 1 (b := q) (T := 57) (cs := cfgCs) rfl 1 (v := .int .i64 2) rfl
        clear ho HM hx
        by_cases hlt : k < 2
        · have hkI : (k : Int) < 2 := by omega
          have hd := HO.out.alloc (.cells #[.int .i64 (100 + (k : Int))] 3)
          have HD := Lib.hid hd
          have HW := Lib.hid (ownR_owns (hd.get 0 rfl))
          clear hd
          go_wp2_with (at_builtin; refine wpList_append_lies _ rfl (.tmp 23) (.tmp 26) 64 rfl 0 3 i0 (.int .i64 0) 1 8 Tryz.underlying64 hi hz0 hz1 hz2 rfl (by decide) _ (4 + k) _ rfl HW.out ⟨wr.heap.size, 0, none⟩ 1 1 [.int .i64 (100 + (k : Int))] rfl rfl ?c1 ?c2 (by decide) ?c3 ?c4 (Nat.zero_le _) _ rfl ?c6)
          case c1 => exact World.news_of_block (heap_alloc_new wr _)
          case c2 => exact one_one rfl
          case c3 => exact small_max (by omega)
          case c4 => omega
          case c6 =>
          intro g cap w5 hown hgrow hat hlt5
          have h6 := HD.out.growAt 0 rfl hgrow (by simpa using hat) hown
          have HZ : Hid (PrMk B w0 w5 q (4 + (k + 1)) (.slice (some ⟨g, 0, none⟩) (4 + k + 1) cap) ss) := Lib.hid ⟨_, _, _, rfl, HX.out.add _, h6⟩
          clear hown hgrow hat hlt5 h6 HD HW HO HX q1
          go_wp2_with fail
          go_roundw
          case rel => exact ⟨k + 1, by omega, by go_num, HZ⟩
          case measure => simp [intOf]; omega
        · have hk2 : k = 2 := by omega
          have hkI : decide ((k : Int) < 2) = false := by simp; omega
          subst hk2
          go_wp2_with fail
          go_ret
          exact ⟨a, c, xs, rfl, HX.out, HO.out.swap.drop⟩

end
end Go.Proofs.YtimdphlolmbhnaaGreat
