/- Requests, batches; the copying of a batch (slot.fresh), and whether two are the same (reqs.Same). -/
import Derived.Test.YtdeadekeffficaaRows
import Derived.Test.YtdeadekeffficaaHeap
import Derived.Test.YtdeadekeffficaaText
import Derived.Deep.QuietTactic
import Derived.BigQuiet
import Derived.Deep.RegionWith
namespace Go.Proofs.Ytdeadekeffficaa
open Go.RowKit Go.Heap

theorem ret_int {k : IntKind} {a b : Int} (h : a = b) : Ending.returned (.int k a) = .returned (.int k b) := by rw [h]
theorem ret_bool {a b : Bool} (h : a = b) : Ending.returned (.bool a) = .returned (.bool b) := by rw [h]

structure Rq where
  client : Int
  time : Int
  kind : Int
  key : Int
  val : Int
  sl : Int
deriving DecidableEq

def rqCells (r : Rq) : List Value := [.int .i64 r.client, .int .i64 r.time, .int .i64 r.kind, .int .i64 r.key, .int .i64 r.val, .int .i64 r.sl]
def rqsCells (rs : List Rq) : List Value := rs.flatMap rqCells

theorem rqsCells_length (rs : List Rq) : (rqsCells rs).length = rs.length * 6 := by
  induction rs with
  | nil => rfl
  | cons p ps ih => simp only [rqsCells, List.flatMap_cons, List.length_append] at *; rw [ih]; simp [rqCells]; omega

theorem rqsCells_get (rs : List Rq) : ∀ k p, rs[k]? = some p → (rqsCells rs)[k * 6]? = some (.int .i64 p.client) ∧ (rqsCells rs)[k * 6 + 1]? = some (.int .i64 p.time) ∧ (rqsCells rs)[k * 6 + 2]? = some (.int .i64 p.kind) ∧
    (rqsCells rs)[k * 6 + 3]? = some (.int .i64 p.key) ∧ (rqsCells rs)[k * 6 + 4]? = some (.int .i64 p.val) ∧ (rqsCells rs)[k * 6 + 5]? = some (.int .i64 p.sl) := by
  induction rs with
  | nil => intro k p h; simp at h
  | cons q rs ih =>
    intro k p h
    match k with
    | 0 => simp at h; subst h; exact ⟨rfl, rfl, rfl, rfl, rfl, rfl⟩
    | k + 1 =>
      have := ih k p (by simpa using h)
      rw [show (k + 1) * 6 = k * 6 + 6 by omega]
      exact this

theorem rqsCells_one (rs : List Rq) : ∀ u ∈ rqsCells rs, u.oneCell' = true := by
  intro u hu
  simp only [rqsCells, List.mem_flatMap] at hu
  obtain ⟨r, _, h⟩ := hu
  simp only [rqCells, List.mem_cons, List.not_mem_nil, or_false] at h
  rcases h with rfl | rfl | rfl | rfl | rfl | rfl <;> rfl

/-- v is a batch. -/
def Bat (w : World) (v : Value) (rs : List Rq) : Prop := Reads w v 6 rs.length (rqsCells rs)

theorem Try.infoReq : (Try.prog.info? 32).map (fun i => (i.zero, i.size, i.bytes)) = some (some (.agg #[.int .i64 0, .int .i64 0, .int .i64 0, .int .i64 0, .int .i64 0, .int .i64 0]), 6, 48) := by kernel_rfl

set_option maxHeartbeats 400000 in
theorem fresh_any (v : Value) (rs : List Rq) (w : World) (hn : rs.length ≤ 100000) (h : Bat w v rs) :
    Calls Try.prog 56 #[v] w fun e w' => ∃ v', e = .returned v' ∧ Upd [] w w' ∧ Bat w' v' rs ∧ ∀ k ∈ blkOf v', w.heap.size ≤ k ∧ k < w'.heap.size := by
  obtain ⟨i0, hi, hz0, hz1, hz2⟩ := info_parts Try.infoReq
  have h' := h
  obtain ⟨ao, cap, rfl, h1, h2, h3, h4, h5⟩ := h'
  clear h1 h2 h3
  cases ao with
  | none =>
    obtain ⟨hr, rfl⟩ := h4 rfl
    have : rs = [] := List.eq_nil_of_length_eq_zero hr
    subst this
    clear hr h4 h5
    go_enter Try.func56, Try.ntmps56
    go_wp2
    go_ret
    exact ⟨_, rfl, Upd.refl _ _, Reads.nil _ _, by simp [blkOf]⟩
  | some a =>
    clear h4
    by_cases h0 : rs.length = 0
    · have : rs = [] := List.eq_nil_of_length_eq_zero h0
      subst this
      clear h5 h0
      go_enter Try.func56, Try.ntmps56
      go_wp2
      go_ret
      exact ⟨_, rfl, Upd.refl _ _, Reads.nil _ _, by simp [blkOf]⟩
    · obtain ⟨b, o, hab, hb, hc⟩ := h5 (by omega)
      simp only [Option.some.injEq] at hab
      subst hab
      clear h5
      have hpos : 0 < rs.length := by omega
      clear h0
      have hnews : ∀ j u, (rqsCells rs)[j]? = some u → w.cell? ((⟨b, o, none⟩ : Addr).add j) = some u := by
        intro j u hj
        have hl := (List.getElem?_eq_some_iff.1 hj).1
        rw [rqsCells_length] at hl
        have : (⟨b, o, none⟩ : Addr).add j = ⟨b, o + j, none⟩ := by unfold Addr.add; split <;> simp_all
        rw [this, hc j hl]
        exact hj
      have HN := Lib.hid hnews
      clear hc hnews
      go_enter Try.func56, Try.ntmps56
      go_wp2_with (at_builtin; refine wpList_append_lies _ rfl (.const (.slice none 0 0)) (.tmp 3) 33 rfl w.heap.size 32 i0 (.agg #[.int .i64 0, .int .i64 0, .int .i64 0, .int .i64 0, .int .i64 0, .int .i64 0]) 6 48 Try.underlying33 hi hz0 hz1 hz2 rfl (by decide) _ 0 [] rfl (World.ownsRow_nil _ _ _ _) ⟨b, o, none⟩ rs.length cap (rqsCells rs) rfl (rqsCells_length rs) HN.out (rqsCells_one rs) hpos ?c3 ?c4 (Nat.le_refl _) w.heap.size rfl ?c6)
      case c3 => unfold maxLen; omega
      case c4 => omega
      case c6 =>
        intro g cap2 w2 hown hgrow hat hlt
        have hg : g = w.heap.size := by
          rcases hat with h | h
          · cases h
          · exact h
        subst hg
        try simp only [Nat.zero_add, List.nil_append] at hown
        have HO := Lib.hid hown
        clear hown hat
        go_wp2
        go_ret
        refine ⟨_, rfl, (Upd.refl _ _).grown hgrow (by intro k hk; cases hk), Reads.of_own HO.out, by simp [blkOf]; exact hlt⟩

end Go.Proofs.Ytdeadekeffficaa
