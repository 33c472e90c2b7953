import Derived.Test.YtopagbmgpecgeaaRows
import Derived.WalkKit
import Derived.WalkSpells
import Derived.WalkLawsBesides
import Derived.Lib.Hide
namespace Go.Proofs.Ytopagbmgpecgeaa
open Go.RowKit

def wthn (c : Int) : Int := max 0 (min c 1048576)

theorem ret_int {k : IntKind} {a b : Int} (h : a = b) : Ending.returned (.int k a) = .returned (.int k b) := by rw [h]

set_option maxHeartbeats 400000 in
theorem within_any (c : Int) (w : World) :
    Calls Try.prog 12 #[.int .i64 c] w fun e w' => e = .returned (.int .i64 (wthn c)) ∧ w = w' := by
  go_enter Try.func12, Try.ntmps12
  go_wp2
  all_goals
    go_ret
    exact ⟨ret_int (by simp [wthn]; omega), rfl⟩

set_option maxHeartbeats 400000 in
theorem new_any (m t : Int) (w : World) (h1 : 1 ≤ m) (h2 : m ≤ 64) (h3 : 1 ≤ t) (h4 : t ≤ 64) :
    Calls Try.prog 6 #[.int .i64 m, .int .i64 t] w fun e w' => e = .returned (.tuple #[.pointer (some ⟨w.heap.size, 0, none⟩), .int .i64 0]) ∧ w' = w.alloc (.cells #[.int .i64 m, .int .i64 t, .slice none 0 0] 34) := by
  go_enter Try.func6, Try.ntmps6
  go_wp2
  go_ret2
  exact ⟨rfl, rfl⟩

structure Peer where
  party : Int
  bad : Int
  till : Int

def atB : List Peer → Int → Int → Int
  | [], _, _ => -1
  | p :: ps, k, x => if p.party = x then k else atB ps (k+1) x

set_option maxHeartbeats 400000 in
theorem at_any (g : Nat) (ao : Option Addr) (cap : Nat) (ps : List Peer) (x : Int) (w : World) (hn : ps.length ≤ 100000) (_hg : g < w.heap.size)
    (h2 : w.cell? ⟨g, 2, none⟩ = some (.slice ao ps.length cap))
    (hc : ∀ k p, ps[k]? = some p → ∃ b, b < w.heap.size ∧ ao = some ⟨b, 0, none⟩ ∧ w.cell? ⟨b, k * 3, none⟩ = some (.int .i64 p.party) ∧ w.cell? ⟨b, k * 3 + 1, none⟩ = some (.int .i64 p.bad) ∧ w.cell? ⟨b, k * 3 + 2, none⟩ = some (.int .i64 p.till)) :
    Calls Try.prog 11 #[.pointer (some ⟨g, 0, none⟩), .int .i64 x] w fun e w' => e = .returned (.int .i64 (atB ps 0 x)) ∧ Below w.heap.size w w' := by
  have HC := Lib.hid hc
  clear hc
  go_enter Try.func11, Try.ntmps11
  go_wp2
  go_loopw [12] (fun i wr => ∃ k : Nat, k ≤ ps.length ∧ i = .int .i64 k ∧ atB ps 0 x = atB (ps.drop k) k x ∧ Below w.heap.size w wr) (fun i _ => ps.length - (intOf i).toNat)
  case atStart => exact ⟨0, by omega, rfl, by simp, Below.refl _ _⟩
  case round =>
    obtain ⟨k, hk, rfl, he, hb⟩ := hrel
    have HE := Lib.hid he
    clear he
    by_cases hlt : k < ps.length
    · obtain ⟨b, hbs, rfl, d0, d1, d2⟩ := HC.out k ps[k] (by simp [hlt])
      have q0 := (hb.cell (p := ⟨b, k * 3, none⟩) hbs).trans d0
      have q1 := (hb.cell (p := ⟨b, k * 3 + 1, none⟩) hbs).trans d1
      have q2 := (hb.cell (p := ⟨b, k * 3 + 2, none⟩) hbs).trans d2
      clear d0 d1 d2
      by_cases hx : ps[k].party = x
      · have Hx := Lib.hid hx
        have hx' : (ps[k].party == x) = true := by simp [hx]
        clear hx
        go_wp2
        go_ret
        refine ⟨ret_int ?_, ?_⟩
        · rw [HE.out, List.drop_eq_getElem_cons hlt, atB, if_pos Hx.out]
        · exact (hb.alloc hb.size _)
      · have Hx := Lib.hid hx
        have hx' : (ps[k].party == x) = false := by simp [hx]
        clear hx
        go_wp2
        go_roundw
        case rel => exact ⟨k + 1, by omega, by go_num, by rw [HE.out, List.drop_eq_getElem_cons hlt, atB, if_neg Hx.out]; rfl, hb.alloc hb.size _⟩
        case measure => simp [intOf]; omega
    · go_wp2
      go_ret
      refine ⟨ret_int ?_, hb⟩
      rw [HE.out, List.drop_of_length_le (by omega)]
      rfl

end Go.Proofs.Ytopagbmgpecgeaa
