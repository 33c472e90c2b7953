/- (*psephosref12.Slot).Committed: the batch that enough have committed. -/
import Derived.Test.YtdeadekeffficaaRefFor
namespace Go.Proofs.Ytdeadekeffficaa
open Go.RowKit Go.Heap

def rcommL (all : List Rv) (q : Nat) : List Rv → Option (List Rq × Vs)
  | [] => none
  | r :: t => match forS all r.rs q with | some vs => some (r.rs, vs) | none => rcommL all q t

def RcommPost (w : World) (r : Option (List Rq × Vs)) (e : Ending) (w' : World) : Prop :=
  ∃ v u, e = .returned (.tuple #[v, u, .bool r.isSome]) ∧ Below w.heap.size w w' ∧ Bat w' v (batchOf r) ∧ Vts w' u (votesOf r)

set_option maxHeartbeats 1000000 in
set_option maxRecDepth 100000 in
theorem rcomm_any (s : Nat) (v : Value) (l : List Rv) (q : Nat) (w : World) (hq : q ≤ 100) (hs : s < w.heap.size) (hc : w.cell? ⟨s, 3, none⟩ = some v) (hv : RVs w v l) :
    Calls Try.prog 63 #[.pointer (some ⟨s, 0, none⟩), .int .i64 q] w (RcommPost w (rcommL l q l)) := by
  obtain ⟨ao, cap, rfl, hl1, hl2, -⟩ := hv.1
  have hmx : l.length ≤ 9223372036854775807 := by unfold maxLen at hl2; omega
  clear hl1 hl2
  have HV := Lib.hid hv
  clear hv
  go_enter Try.func63, Try.ntmps63
  go_wp2_with fail
  go_loopw [7] (fun i wr => ∃ k : Nat, k ≤ l.length ∧ i = .int .i64 k ∧ Below w.heap.size w wr ∧ Hid (rcommL l q l = rcommL l q (l.drop k))) (fun i _ => l.length - (intOf i).toNat)
  case atStart => exact ⟨0, by omega, rfl, Below.refl _ _, by rfl⟩
  case round =>
    obtain ⟨k, hk, rfl, hbel, hcom⟩ := hrel
    have hz := hbel.size
    have k3 := (hbel.cell (p := ⟨s, 3, none⟩) hs).trans hc
    by_cases hlt : k < l.length
    · have hkI : (k : Int) < (l.length : Int) := by omega
      have hvr := HV.out.upd0 (Upd.of_below hbel)
      obtain ⟨-, b, o, rfl, hbs, c0, c1, c2, hbat, hlk⟩ := hvr.at k hlt
      have hdrop := Lib.hid (List.drop_eq_getElem_cons hlt)
      have hsr : s < wr.heap.size := Nat.lt_of_lt_of_le hs hz
      have HBAT := Lib.hid hbat
      have hen := for_any (.slice (some ⟨b, o, none⟩) l.length cap) l[k].b l l[k].rs q wr.drew hq (hvr.upd0 (Upd.refl _ _).drew) (hbat.upd (M := []) (Upd.refl _ _).drew (by simp)) hlk
      simp only [hs_drew] at hen
      clear hvr c0 c1 hbat
      go_wp2_with fail
      refine Mix.wp_text2 (by kernel_rfl) (by kernel_rfl) ?_
      go_wp2_with fail
      cases hr : forS l l[k].rs q with
      | none =>
        rw [hr] at hen
        have HR := Lib.hid hr
        clear hr
        refine hen.mono ?_
        clear hen
        rintro e w2 ⟨u, rfl, hb1, -, -⟩
        go_wp2_with fail
        refine ⟨by rfl, ?_⟩
        go_wp2_with fail
        go_roundw
        case rel =>
          refine ⟨k + 1, by omega, by go_num, hbel.drew.trans (hb1.mono hz), ?_⟩
          have h1 := hcom.out
          rw [hdrop.out] at h1
          show rcommL l q l = _
          rw [h1, rcommL, HR.out]
        case measure => simp [intOf]; omega
      | some vs =>
        rw [hr] at hen
        have HR := Lib.hid hr
        clear hr
        refine hen.mono ?_
        clear hen
        rintro e w2 ⟨u, rfl, hb1, hvv, -⟩
        have HV2 := Lib.hid hvv
        clear hvv
        have x3 : w2.cell? ⟨s, 3, none⟩ = some (.slice (some ⟨b, o, none⟩) l.length cap) := (hb1.cell (p := ⟨s, 3, none⟩) hsr).trans k3
        have x2 : w2.cell? ⟨b, o + k * 3 + 2, none⟩ = some l[k].b := (hb1.cell (p := ⟨b, o + k * 3 + 2, none⟩) hbs).trans c2
        go_wp2_with fail
        refine ⟨by rfl, ?_⟩
        go_wp2_with fail
        go_ret3
        have hcs : rcommL l q l = some (l[k].rs, vs) := by rw [hcom.out, hdrop.out, rcommL, HR.out]
        refine ⟨l[k].b, u, by rw [hcs]; rfl, hbel.drew.trans (hb1.mono hz), ?_, ?_⟩
        · rw [hcs]; exact (HBAT.out.upd (M := []) (Upd.refl _ _).drew (by simp)).upd (M := []) (Upd.of_below (w := wr.drew) hb1) (by simp)
        · rw [hcs]; exact HV2.out
    · have hkl : k = l.length := by omega
      subst hkl
      have hkI : ¬ (l.length : Int) < (l.length : Int) := by omega
      go_wp2_with fail
      go_ret3
      have hcs : rcommL l q l = none := by rw [hcom.out, List.drop_length]; rfl
      refine ⟨.slice none 0 0, .slice none 0 0, by rw [hcs]; rfl, hbel, ?_, ?_⟩
      · rw [hcs]; exact Reads.nil _ _
      · rw [hcs]; exact Reads.nil _ _

end Go.Proofs.Ytdeadekeffficaa
