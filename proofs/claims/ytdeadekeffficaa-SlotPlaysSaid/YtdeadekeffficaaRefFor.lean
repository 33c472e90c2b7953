/- psephosref12.For: the lowest votes for a batch. -/
import Derived.Test.YtdeadekeffficaaRefA
import Derived.Test.YtdeadekeffficaaElems
import Derived.Test.YtdeadekeffficaaText2
import Derived.Deep.DeepCutAuto
import Derived.Deep.CutBlock
namespace Go.Proofs.Ytdeadekeffficaa
open Go.RowKit Go.Heap

/-- A vote of the document's own list. -/
structure Rv where
  node : Int
  sl : Int
  b : Value
  rs : List Rq

def rvCells (r : Rv) : List Value := [.int .i64 r.node, .int .i64 r.sl, r.b]
def RVs (w : World) (v : Value) (l : List Rv) : Prop := Reads w v 3 l.length (l.flatMap rvCells) ∧ ∀ r ∈ l, Bat w r.b r.rs ∧ r.rs.length ≤ 100000

theorem RVs.upd0 {w w' : World} {v : Value} {l : List Rv} (h : RVs w v l) (hu : Upd [] w w') : RVs w' v l :=
  ⟨h.1.upd hu (by simp), fun r hr => ⟨(h.2 r hr).1.upd hu (by simp), (h.2 r hr).2⟩⟩

theorem RVs.at {w : World} {ao : Option Addr} {n cap : Nat} {l : List Rv} (h : RVs w (.slice ao n cap) l) (k : Nat) (hk : k < l.length) :
    n = l.length ∧ ∃ b o, ao = some ⟨b, o, none⟩ ∧ b < w.heap.size ∧ w.cell? ⟨b, o + k * 3, none⟩ = some (.int .i64 l[k].node) ∧ w.cell? ⟨b, o + k * 3 + 1, none⟩ = some (.int .i64 l[k].sl) ∧ w.cell? ⟨b, o + k * 3 + 2, none⟩ = some l[k].b ∧ Bat w l[k].b l[k].rs ∧ l[k].rs.length ≤ 100000 := by
  obtain ⟨⟨ao', cap', hv, h1, h2, h3, h4, h5⟩, hb⟩ := h
  simp only [Value.slice.injEq] at hv
  obtain ⟨rfl, rfl, rfl⟩ := hv
  obtain ⟨b, o, rfl, hbs, hc⟩ := h5 (by omega)
  have hg : ∀ r, r < 3 → w.cell? ⟨b, o + k * 3 + r, none⟩ = (rvCells l[k])[r]? := by
    intro r hr
    have := hc (k * 3 + r) (by omega)
    rw [flat_get (cells := rvCells) (sz := 3) (fun _ => rfl) l k r l[k] (by simp) hr] at this
    rw [← this]
    congr 2
    omega
  obtain ⟨b1, b2⟩ := hb l[k] (by simp)
  exact ⟨rfl, b, o, rfl, hbs, hg 0 (by omega), hg 1 (by omega), hg 2 (by omega), b1, b2⟩

def pickR (batch : List Rq) (l : List Rv) : Vs := (l.filter fun r => decide (r.rs = batch)).map fun r => (r.node, r.sl)
def pickedR (batch : List Rq) (l : List Rv) (q k : Nat) : Vs := (pickR batch (l.take k)).take q
def forS (l : List Rv) (batch : List Rq) (q : Nat) : Option Vs := if (pickR batch l).length < q then none else some ((pickR batch l).take q)

theorem pickedR_zero (batch : List Rq) (l : List Rv) (q : Nat) : pickedR batch l q 0 = [] := by simp [pickedR, pickR]
theorem pickedR_le (batch : List Rq) (l : List Rv) (q k : Nat) : (pickedR batch l q k).length ≤ q := by simp [pickedR]; omega
theorem pickR_app (batch : List Rq) (a b : List Rv) : pickR batch (a ++ b) = pickR batch a ++ pickR batch b := by simp [pickR]

theorem pickedR_succ (batch : List Rq) (l : List Rv) (q k : Nat) (hk : k < l.length) :
    pickedR batch l q (k + 1) = if decide (l[k].rs = batch) && decide ((pickedR batch l q k).length < q) then pickedR batch l q k ++ [(l[k].node, l[k].sl)] else pickedR batch l q k := by
  unfold pickedR
  rw [List.take_succ_eq_append_getElem hk, pickR_app]
  generalize pickR batch (l.take k) = A
  cases hg : decide (l[k].rs = batch)
  · simp [pickR, hg]
  · by_cases hl : A.length < q
    · have e1 : (A.take q).length < q := by rw [List.length_take]; omega
      rw [if_pos (by simp only [Bool.true_and, decide_eq_true_eq]; exact e1), List.take_append, List.take_of_length_le (by omega : A.length ≤ q)]
      congr 1
      have e2 : pickR batch [l[k]] = [(l[k].node, l[k].sl)] := by simp [pickR, hg]
      rw [e2, List.take_of_length_le (by simp; omega)]
    · have e1 : ¬ (A.take q).length < q := by rw [List.length_take]; omega
      rw [if_neg (by simp only [Bool.true_and, decide_eq_true_eq]; exact e1), List.take_append_of_le_length (by omega)]

theorem pickedR_full (batch : List Rq) (l : List Rv) (q k : Nat) (hq : ¬ (pickedR batch l q k).length < q) : pickedR batch l q l.length = pickedR batch l q k := by
  unfold pickedR at hq ⊢
  rw [List.length_take] at hq
  conv => lhs; rw [List.take_of_length_le (Nat.le_refl _), ← List.take_append_drop k l, pickR_app]
  rw [List.take_append_of_le_length (by omega)]

theorem for_none {l : List Rv} {batch : List Rq} {q : Nat} (h : (pickedR batch l q l.length).length < q) : forS l batch q = none := by
  simp only [pickedR, List.take_length, List.length_take] at h
  unfold forS
  rw [if_pos (by omega)]

theorem for_some {l : List Rv} {batch : List Rq} {q : Nat} (h : ¬ (pickedR batch l q l.length).length < q) : forS l batch q = some (pickedR batch l q l.length) := by
  simp only [pickedR, List.take_length, List.length_take] at h ⊢
  unfold forS
  rw [if_neg (by omega)]

set_option maxHeartbeats 1000000 in
set_option maxRecDepth 100000 in
theorem for_any (v bv : Value) (l : List Rv) (batch : List Rq) (q : Nat) (w : World) (hq : q ≤ 100) (hv : RVs w v l) (hb : Bat w bv batch) (hbl : batch.length ≤ 100000) :
    Calls Try.prog 62 #[v, bv, .int .i64 q] w fun e w' =>
      ∃ u, e = .returned (.tuple #[u, .bool (forS l batch q).isSome]) ∧ Below w.heap.size w w' ∧ Vts w' u ((forS l batch q).getD []) ∧ ∀ k ∈ blkOf u, w.heap.size ≤ k := by
  obtain ⟨i0, hi, hz0, hz1, hz2⟩ := info_parts Try.infoVote
  obtain ⟨ao, cap, rfl, hl1, hl2, -⟩ := hv.1
  have hmx : l.length ≤ 9223372036854775807 := by unfold maxLen at hl2; omega
  clear hl1 hl2
  have HV := Lib.hid hv
  have HB := Lib.hid hb
  clear hv hb
  go_enter Try.func62, Try.ntmps62
  go_upto_block 0 with fail
  go_cut [8] (fun out wx => ∃ (ao2 : Option Addr) (cp : Nat), out = .slice ao2 (pickedR batch l q l.length).length cp ∧ Below w.heap.size w wx ∧
      Hid (wx.ownsRow w.heap.size 44 2 (.slice ao2 (pickedR batch l q l.length).length cp) (pickedR batch l q l.length).length (vsCells (pickedR batch l q l.length))))
  case first =>
    go_wp2_with fail
    go_loopw [8, 9] (fun out i wr => ∃ (k : Nat) (ao2 : Option Addr) (cp : Nat), k ≤ l.length ∧ i = .int .i64 k ∧ out = .slice ao2 (pickedR batch l q k).length cp ∧ Below w.heap.size w wr ∧
        Hid (wr.ownsRow w.heap.size 44 2 (.slice ao2 (pickedR batch l q k).length cp) (pickedR batch l q k).length (vsCells (pickedR batch l q k)))) (fun _ i _ => l.length - (intOf i).toNat)
    case atStart =>
      refine ⟨0, none, 0, by omega, rfl, ?_, Below.refl _ _, ?_⟩
      · rw [pickedR_zero]; rfl
      · rw [pickedR_zero]; exact World.ownsRow_nil _ _ _ _
    case round =>
      obtain ⟨k, ao2, cp, hk, rfl, rfl, hbel, hown⟩ := hrel
      have hz := hbel.size
      by_cases hlt : k < l.length
      · have hsucc := Lib.hid (pickedR_succ batch l q k hlt)
        have hfull := Lib.hid (fun h => pickedR_full batch l q k h)
        have hple := pickedR_le batch l q k
        generalize pickedR batch l q k = A at *
        have hkI : (k : Int) < (l.length : Int) := by omega
        by_cases hlen : A.length < q
        · have hqI : (A.length : Int) < (q : Int) := by omega
          have hvr := HV.out.upd0 (Upd.of_below hbel)
          obtain ⟨-, b, o, rfl, hbs, c0, c1, c2, hbat, hlk⟩ := hvr.at k hlt
          have HBAT := Lib.hid hbat
          have HBR := Lib.hid (HB.out.upd (M := []) (Upd.of_below hbel) (by simp))
          clear hvr hbat
          go_wp2_with fail
          refine (sameQ_any _ bv l[k].rs batch _ hlk hbl HBAT.out HBR.out).mono ?_
          rintro e w2 ⟨rfl, hu2⟩
          have hbB := hu2.below
          have x0 : w2.cell? ⟨b, o + k * 3, none⟩ = some (.int .i64 l[k].node) := (hbB.cell (p := ⟨b, o + k * 3, none⟩) hbs).trans c0
          have x1 : w2.cell? ⟨b, o + k * 3 + 1, none⟩ = some (.int .i64 l[k].sl) := (hbB.cell (p := ⟨b, o + k * 3 + 1, none⟩) hbs).trans c1
          have hbelw : Below w.heap.size w w2 := hbel.trans (hbB.mono hz)
          have hzz := hbelw.size
          clear c0 c1 c2
          by_cases hsm : l[k].rs = batch
          · have HSM := Lib.hid hsm
            rw [decide_eq_true hsm]
            clear hsm
            rw [HSM.out] at hsucc
            have ho3 := ((owns_upd (M := []) hown.out hu2.drew (by simp))).alloc (.cells #[.int .i64 l[k].node, .int .i64 l[k].sl] 44)
            have HO := Lib.hid ho3
            clear ho3
            go_wp2_with fail
            refine Mix.wp_text2 (by kernel_rfl) (by kernel_rfl) ?_
            have hle : A.length ≤ 100 := by omega
            go_wp2_with (at_builtin; refine wpList_append_lies _ rfl (.tmp 29) (.tmp 41) 37 rfl w.heap.size 44 i0 (.agg #[.int .i64 0, .int .i64 0]) 2 16 Try.underlying37 hi hz0 hz1 hz2 rfl (by decide) _ A.length (vsCells A) rfl HO.out ⟨w2.heap.size, 0, none⟩ 1 1 [.int .i64 l[k].node, .int .i64 l[k].sl] rfl rfl ?c1 ?c2 (by decide) ?c3 ?c4 ?c5 (w2.heap.size + 1) (by simp) ?c6)
            case c1 => intro j u hj; match j, hj with | 0, hj => simp at hj; subst hj; simp [Addr.add] | 1, hj => simp at hj; subst hj; simp [Addr.add]
            case c2 => intro u hu; simp at hu; rcases hu with rfl | rfl <;> rfl
            case c3 => unfold maxLen; omega
            case c4 => omega
            case c5 => simp; omega
            case c6 =>
              intro g cap2 w3 hown3 hgrow hat hlt3
              have hsucc' : pickedR batch l q (k + 1) = A ++ [(l[k].node, l[k].sl)] := by rw [hsucc.out, decide_eq_true hlen]; simp
              have HSU := Lib.hid hsucc'
              clear hsucc'
              have H3 := Lib.hid hown3
              clear hown3
              have hbel3 : Below w.heap.size w w3 := (((Upd.of_below hbelw).drew).below.alloc (Nat.le_trans hbelw.size (Nat.le_refl _)) _).grown hgrow (by simp; omega) (by intro j hj; exact (hown.out.lt j hj).1)
              go_wp2_with fail
              refine ⟨by rfl, ?_⟩
              go_wp2_with fail
              go_roundw
              case rel =>
                refine ⟨k + 1, some ⟨g, 0, none⟩, cap2, by omega, by go_num, ?_, hbel3, ?_⟩
                · rw [HSU.out]; simp
                · rw [HSU.out, vsCells_app, List.length_append]; exact H3
              case measure => simp [intOf]; omega
          · have HSM := Lib.hid hsm
            rw [decide_eq_false hsm]
            clear hsm
            go_wp2_with fail
            go_roundw
            have hsucc' : pickedR batch l q (k + 1) = A := by rw [hsucc.out, decide_eq_false HSM.out]; rfl
            case rel =>
              refine ⟨k + 1, ao2, cp, by omega, by go_num, by rw [hsucc'], hbelw, ?_⟩
              rw [hsucc']
              exact owns_upd (M := []) hown.out hu2 (by simp)
            case measure => simp [intOf]; omega
        · have hqI : ¬ (A.length : Int) < (q : Int) := by omega
          have hqb : decide ((A.length : Int) < (q : Int)) = false := by simp; omega
          go_wp2_with fail
          go_meet
          refine ⟨ao2, cp, ?_, hbel, ?_⟩
          · rw [hfull.out hlen]
          · rw [hfull.out hlen]; exact hown
      · have hkl : k = l.length := by omega
        subst hkl
        have hkI : ¬ (l.length : Int) < (l.length : Int) := by omega
        go_wp2_with fail
        go_meet
        exact ⟨ao2, cp, rfl, hbel, hown⟩
  case rest =>
    obtain ⟨ao2, cp, rfl, hbel, hown⟩ := hcut
    have HN := Lib.hid (fun h => for_none (l := l) (batch := batch) (q := q) h)
    have HY := Lib.hid (fun h => for_some (l := l) (batch := batch) (q := q) h)
    have hple := pickedR_le batch l q l.length
    generalize pickedR batch l q l.length = A at *
    by_cases hlen : A.length < q
    · have hqI : (A.length : Int) < (q : Int) := by omega
      go_wp2_with fail
      go_ret2
      refine ⟨.slice none 0 0, ?_, hbel, ?_, ?_⟩
      · rw [HN.out hlen]; rfl
      · rw [HN.out hlen]; exact Reads.nil _ _
      · simp [blkOf]
    · have hqI : ¬ (A.length : Int) < (q : Int) := by omega
      have hqb : decide ((A.length : Int) < (q : Int)) = false := by simp; omega
      go_wp2_with fail
      go_ret2
      obtain ⟨r1, r2⟩ := vts_of_own rfl hown.out
      refine ⟨.slice ao2 A.length cp, ?_, hbel, ?_, r2⟩
      · rw [HY.out hlen]; rfl
      · rw [HY.out hlen]; exact r1

end Go.Proofs.Ytdeadekeffficaa
