/- Parts of the proof, one behind the other. -/
import Derived.Test.YtannckelmojkoaaGreatMovB2
import Derived.Test.YtannckelmojkoaaGreatRows
import Derived.Deep.QuietTactic
import Derived.BigQuiet
import Derived.Deep.RegionWith
import Derived.Deep.RegionHeld3
import Derived.WalkKit
import Derived.ProofKit
import Derived.OpenShut
import Derived.Carry
import Derived.Deep.Slices

/- audit's example: caches, votes, meters, seals, ledgers that are new. -/
namespace Go.Proofs.YtannckelmojkoaaGreat
open Go.RowKit Go.Heap

section
variable {B : Nat} {w0 W W' : World} {ss : List Res}

theorem own_toSeg {b : Nat} {T : TypeId} {cs : Array Value} {vals : List Value} (h : Own B w0 W (blk b (.cells cs T (0, 0)) :: ss)) (e : cs.toList = vals) : Own B w0 W (segR b T vals :: ss) := by
  subst e
  exact h.alter ⟨[], ⟨⟨cs, h.blk_out, by simp, fun j hj => by simp⟩, rfl⟩, by simp, fun k hk => h.lt k hk⟩ (fun k hk => hk)

def rpCells (r : Int × Int) : List Value := [.int .i64 r.1, .int .i64 r.2]

theorem made_rp0 : (madeCells #[.int .i64 0, .int .i64 0] (0 * 2)).toList = (List.replicate 0 ((0 : Int), (0 : Int))).flatMap rpCells := by kernel_rfl
theorem made_rp1 : (madeCells #[.int .i64 0, .int .i64 0] (1 * 2)).toList = (List.replicate 1 ((0 : Int), (0 : Int))).flatMap rpCells := by kernel_rfl
theorem made_rp2 : (madeCells #[.int .i64 0, .int .i64 0] (2 * 2)).toList = (List.replicate 2 ((0 : Int), (0 : Int))).flatMap rpCells := by kernel_rfl
theorem made_rp3 : (madeCells #[.int .i64 0, .int .i64 0] (3 * 2)).toList = (List.replicate 3 ((0 : Int), (0 : Int))).flatMap rpCells := by kernel_rfl
theorem made_rp4 : (madeCells #[.int .i64 0, .int .i64 0] (4 * 2)).toList = (List.replicate 4 ((0 : Int), (0 : Int))).flatMap rpCells := by kernel_rfl
theorem made_rp (n : Nat) (h : n ≤ 4) : (madeCells #[.int .i64 0, .int .i64 0] (n * 2)).toList = (List.replicate n ((0 : Int), (0 : Int))).flatMap rpCells := by
  have : n = 0 ∨ n = 1 ∨ n = 2 ∨ n = 3 ∨ n = 4 := by omega
  rcases this with rfl | rfl | rfl | rfl | rfl
  · exact made_rp0
  · exact made_rp1
  · exact made_rp2
  · exact made_rp3
  · exact made_rp4

theorem Tryz.infoRp : (Tryz.prog.info? 286).map (fun i => (i.zero, i.size, i.bytes)) = some (some (.agg #[.int .i64 0, .int .i64 0]), 2, 16) := by kernel_rfl

theorem run_make_rp (n : Nat) (h2 : n ≤ 4) (wx : World) : (Instr.makeSlice 287 (.int .i64 n) (.int .i64 n)).run Tryz.prog wx = .ok (.slice (some ⟨wx.heap.size, 0, none⟩) n n) (wx.alloc (.cells (madeCells #[.int .i64 0, .int .i64 0] (n * 2)) 286)) := by
  obtain ⟨i0, hi, hz0, hz1, hz2⟩ := info_parts Tryz.infoRp
  have := run_make (P := Tryz.prog) wx 287 286 i0 _ Tryz.underlying287 hi hz0 .i64 .i64 (n : Int) (n : Int) (by omega) (by omega) (by rw [hz2]; omega) (by omega)
  rw [show (n : Int).toNat = n by omega, hz1] at this
  exact this

/-- A cache. -/
def chR (p g : Nat) (cap : Nat) (l : List (Int × Int)) : List Res := [blk p (.cells #[.slice (some ⟨g, 0, none⟩) l.length cap] 289 (0, 0)), segR g 286 (l.flatMap rpCells)]

theorem cache_new (n : Nat) (h1 : 1 ≤ n) (h4 : n ≤ 4) (h : Own B w0 W ss) : Calls Tryz.prog 152 #[.int .i64 n] W fun e w' => ∃ p g, e = .returned (.tuple #[.pointer (some ⟨p, 0, none⟩), .int .i64 0]) ∧ Own B w0 w' (chR p g n (List.replicate n (0, 0)) ++ ss) := by
  have H := Lib.hid h
  clear h
  have hmk := fun wx => run_make_rp n h4 wx
  go_enter Tryz.func152, Tryz.ntmps152
  go_wp2
  go_ret2
  refine ⟨W.heap.size + 1, W.heap.size, rfl, ?_⟩
  have h1 := (own_toSeg (H.out.box (.cells (madeCells #[.int .i64 0, .int .i64 0] (n * 2)) 286)) (made_rp n h4)).box (.cells #[.slice (some ⟨W.heap.size, 0, none⟩) n n] 289 (0, 0))
  simpa [chR] using h1

theorem Tryz.infocv : (Tryz.prog.info? 320).map (fun i => (i.zero, i.size, i.bytes)) = some (some (.agg #[.bool false, .int .i64 0, .int .i64 0]), 3, 24) := by kernel_rfl
theorem run_make_cv (wx : World) : (Instr.makeSlice 245 (.int .i64 4) (.int .i64 4)).run Tryz.prog wx = .ok (.slice (some ⟨wx.heap.size, 0, none⟩) 4 4) (wx.alloc (.cells (madeCells #[.bool false, .int .i64 0, .int .i64 0] (4 * 3)) 320)) := by
  obtain ⟨i0, hi, hz0, hz1, hz2⟩ := info_parts Tryz.infocv
  have := run_make (P := Tryz.prog) wx 245 320 i0 _ Tryz.underlying245 hi hz0 .i64 .i64 (4 : Int) (4 : Int) (by omega) (by omega) (by rw [hz2]; omega) (by omega)
  rw [show (4 : Int).toNat = 4 by omega, hz1] at this
  exact this

theorem Tryz.infocx : (Tryz.prog.info? 269).map (fun i => (i.zero, i.size, i.bytes)) = some (some (.complex .f64 0 0), 1, 16) := by kernel_rfl
theorem run_make_cx (wx : World) : (Instr.makeSlice 169 (.int .i64 2) (.int .i64 2)).run Tryz.prog wx = .ok (.slice (some ⟨wx.heap.size, 0, none⟩) 2 2) (wx.alloc (.cells (madeCells #[.complex .f64 0 0] (2 * 1)) 269)) := by
  obtain ⟨i0, hi, hz0, hz1, hz2⟩ := info_parts Tryz.infocx
  have := run_make (P := Tryz.prog) wx 169 269 i0 _ Tryz.underlying169 hi hz0 .i64 .i64 (2 : Int) (2 : Int) (by omega) (by omega) (by rw [hz2]; omega) (by omega)
  rw [show (2 : Int).toNat = 2 by omega, hz1] at this
  exact this

theorem Tryz.infoi17 : (Tryz.prog.info? 3).map (fun i => (i.zero, i.size, i.bytes)) = some (some (.int .i64 0), 1, 8) := by kernel_rfl
theorem run_make_i17 (wx : World) : (Instr.makeSlice 69 (.int .i64 17) (.int .i64 17)).run Tryz.prog wx = .ok (.slice (some ⟨wx.heap.size, 0, none⟩) 17 17) (wx.alloc (.cells (madeCells #[.int .i64 0] (17 * 1)) 3)) := by
  obtain ⟨i0, hi, hz0, hz1, hz2⟩ := info_parts Tryz.infoi17
  have := run_make (P := Tryz.prog) wx 69 3 i0 _ Tryz.underlying69 hi hz0 .i64 .i64 (17 : Int) (17 : Int) (by omega) (by omega) (by rw [hz2]; omega) (by omega)
  rw [show (17 : Int).toNat = 17 by omega, hz1] at this
  exact this

theorem Tryz.infopt : (Tryz.prog.info? 260).map (fun i => (i.zero, i.size, i.bytes)) = some (some (.agg #[.int .i64 0, .int .i64 0, .slice none 0 0, .slice none 0 0, .int .i64 0]), 5, 72) := by kernel_rfl
theorem run_make_pt (wx : World) : (Instr.makeSlice 137 (.int .i64 4) (.int .i64 4)).run Tryz.prog wx = .ok (.slice (some ⟨wx.heap.size, 0, none⟩) 4 4) (wx.alloc (.cells (madeCells #[.int .i64 0, .int .i64 0, .slice none 0 0, .slice none 0 0, .int .i64 0] (4 * 5)) 260)) := by
  obtain ⟨i0, hi, hz0, hz1, hz2⟩ := info_parts Tryz.infopt
  have := run_make (P := Tryz.prog) wx 137 260 i0 _ Tryz.underlying137 hi hz0 .i64 .i64 (4 : Int) (4 : Int) (by omega) (by omega) (by rw [hz2]; omega) (by omega)
  rw [show (4 : Int).toNat = 4 by omega, hz1] at this
  exact this

theorem Tryz.infobg : (Tryz.prog.info? 262).map (fun i => (i.zero, i.size, i.bytes)) = some (some (.agg #[.int .i64 0, .int .i64 0, .int .i64 0, .int .i64 0, .int .i64 0, .int .i64 0, .int .i64 0, .slice none 0 0, .slice none 0 0, .slice none 0 0, .slice none 0 0]), 11, 152) := by kernel_rfl
theorem run_make_bg (wx : World) : (Instr.makeSlice 138 (.int .i64 2) (.int .i64 2)).run Tryz.prog wx = .ok (.slice (some ⟨wx.heap.size, 0, none⟩) 2 2) (wx.alloc (.cells (madeCells #[.int .i64 0, .int .i64 0, .int .i64 0, .int .i64 0, .int .i64 0, .int .i64 0, .int .i64 0, .slice none 0 0, .slice none 0 0, .slice none 0 0, .slice none 0 0] (2 * 11)) 262)) := by
  obtain ⟨i0, hi, hz0, hz1, hz2⟩ := info_parts Tryz.infobg
  have := run_make (P := Tryz.prog) wx 138 262 i0 _ Tryz.underlying138 hi hz0 .i64 .i64 (2 : Int) (2 : Int) (by omega) (by omega) (by rw [hz2]; omega) (by omega)
  rw [show (2 : Int).toNat = 2 by omega, hz1] at this
  exact this

theorem change_new (h : Own B w0 W ss) : Calls Tryz.prog 84 #[.int .i64 1] W fun e w' => ∃ (p g : Nat) , e = .returned (.tuple #[.pointer (some ⟨p, 0, none⟩), .int .i64 0]) ∧ Own B w0 w' (blk p (.cells #[.int .i64 1, .slice (some ⟨g, 0, none⟩) 4 4] 247 (0, 0)) :: blk g (.cells (madeCells #[.bool false, .int .i64 0, .int .i64 0] (4 * 3)) 320 (0, 0)) :: ss) := by
  have H := Lib.hid h
  clear h
  have hmk := run_make_cv
  go_enter Tryz.func84, Tryz.ntmps84
  go_wp2_with fail
  refine (nodes_one _).mono ?_
  rintro e w' ⟨rfl, rfl⟩
  go_wp2
  go_ret2
  exact ⟨W.heap.size + 1, W.heap.size, rfl, (H.out.box _).boxAt _ (by simp)⟩

theorem meter_new (h : Own B w0 W ss) : Calls Tryz.prog 87 #[.int .i64 2] W fun e w' => ∃ (p g : Nat) , e = .returned (.tuple #[.pointer (some ⟨p, 0, none⟩), .int .i64 0]) ∧ Own B w0 w' (blk p (.cells #[.slice (some ⟨g, 0, none⟩) 2 2] 254 (0, 0)) :: blk g (.cells (madeCells #[.complex .f64 0 0] (2 * 1)) 269 (0, 0)) :: ss) := by
  have H := Lib.hid h
  clear h
  have hmk := run_make_cx
  go_enter Tryz.func87, Tryz.ntmps87
  go_wp2
  go_ret2
  exact ⟨W.heap.size + 1, W.heap.size, rfl, (H.out.box _).boxAt _ (by simp)⟩

theorem notary_new (h : Own B w0 W ss) : Calls Tryz.prog 31 #[] W fun e w' => ∃ (p m : Nat), e = .returned (.pointer (some ⟨p, 0, none⟩)) ∧ Own B w0 w' (blk p (.cells #[.map (some m)] 152 (0, 0)) :: blk m (.map #[] 0) :: ss) := by
  have H := Lib.hid h
  clear h
  have hmm := @run_makeMap Tryz.prog
  go_enter Tryz.func31, Tryz.ntmps31
  go_wp2
  go_ret
  exact ⟨W.heap.size + 1, W.heap.size, rfl, (H.out.box _).boxAt _ (by simp)⟩

end
end Go.Proofs.YtannckelmojkoaaGreat

/- Requests, batches; the copying of a batch (slot.fresh), and whether two are the same (reqs.Same). -/
namespace Go.Proofs.YtannckelmojkoaaGreat
open Go.RowKit Go.Heap

theorem ret_int {k : IntKind} {a b : Int} (h : a = b) : Ending.returned (.int k a) = .returned (.int k b) := by rw [h]
theorem ret_bool {a b : Bool} (h : a = b) : Ending.returned (.bool a) = .returned (.bool b) := by rw [h]

structure Rq where
  client : Int
  time : Int
  kind : Int
  key : Int
  val : Int
  sl : Int
deriving DecidableEq

def rqCells (r : Rq) : List Value := [.int .i64 r.client, .int .i64 r.time, .int .i64 r.kind, .int .i64 r.key, .int .i64 r.val, .int .i64 r.sl]
def rqsCells (rs : List Rq) : List Value := rs.flatMap rqCells

theorem rqsCells_length (rs : List Rq) : (rqsCells rs).length = rs.length * 6 := by
  induction rs with
  | nil => rfl
  | cons p ps ih => simp only [rqsCells, List.flatMap_cons, List.length_append] at *; rw [ih]; simp [rqCells]; omega

theorem rqsCells_get (rs : List Rq) : ∀ k p, rs[k]? = some p → (rqsCells rs)[k * 6]? = some (.int .i64 p.client) ∧ (rqsCells rs)[k * 6 + 1]? = some (.int .i64 p.time) ∧ (rqsCells rs)[k * 6 + 2]? = some (.int .i64 p.kind) ∧
    (rqsCells rs)[k * 6 + 3]? = some (.int .i64 p.key) ∧ (rqsCells rs)[k * 6 + 4]? = some (.int .i64 p.val) ∧ (rqsCells rs)[k * 6 + 5]? = some (.int .i64 p.sl) := by
  induction rs with
  | nil => intro k p h; simp at h
  | cons q rs ih =>
    intro k p h
    match k with
    | 0 => simp at h; subst h; exact ⟨rfl, rfl, rfl, rfl, rfl, rfl⟩
    | k + 1 =>
      have := ih k p (by simpa using h)
      rw [show (k + 1) * 6 = k * 6 + 6 by omega]
      exact this

theorem rqsCells_one (rs : List Rq) : ∀ u ∈ rqsCells rs, u.oneCell' = true := by
  intro u hu
  simp only [rqsCells, List.mem_flatMap] at hu
  obtain ⟨r, _, h⟩ := hu
  simp only [rqCells, List.mem_cons, List.not_mem_nil, or_false] at h
  rcases h with rfl | rfl | rfl | rfl | rfl | rfl <;> rfl

/-- v is a batch. -/
def Bat (w : World) (v : Value) (rs : List Rq) : Prop := Reads w v 6 rs.length (rqsCells rs)

theorem Tryz.infoReq : (Tryz.prog.info? 38).map (fun i => (i.zero, i.size, i.bytes)) = some (some (.agg #[.int .i64 0, .int .i64 0, .int .i64 0, .int .i64 0, .int .i64 0, .int .i64 0]), 6, 48) := by kernel_rfl

set_option maxHeartbeats 400000 in
theorem fresh_any (v : Value) (rs : List Rq) (w : World) (hn : rs.length ≤ 100000) (h : Bat w v rs) :
    Calls Tryz.prog 252 #[v] w fun e w' => ∃ v', e = .returned v' ∧ Upd [] w w' ∧ Bat w' v' rs ∧ ∀ k ∈ blkOf v', w.heap.size ≤ k ∧ k < w'.heap.size := by
  obtain ⟨i0, hi, hz0, hz1, hz2⟩ := info_parts Tryz.infoReq
  have h' := h
  obtain ⟨ao, cap, rfl, h1, h2, h3, h4, h5⟩ := h'
  clear h1 h2 h3
  cases ao with
  | none =>
    obtain ⟨hr, rfl⟩ := h4 rfl
    have : rs = [] := List.eq_nil_of_length_eq_zero hr
    subst this
    clear hr h4 h5
    go_enter Tryz.func252, Tryz.ntmps252
    go_wp2
    go_ret
    exact ⟨_, rfl, Upd.refl _ _, Reads.nil _ _, by simp [blkOf]⟩
  | some a =>
    clear h4
    by_cases h0 : rs.length = 0
    · have : rs = [] := List.eq_nil_of_length_eq_zero h0
      subst this
      clear h5 h0
      go_enter Tryz.func252, Tryz.ntmps252
      go_wp2
      go_ret
      exact ⟨_, rfl, Upd.refl _ _, Reads.nil _ _, by simp [blkOf]⟩
    · obtain ⟨b, o, hab, hb, hc⟩ := h5 (by omega)
      simp only [Option.some.injEq] at hab
      subst hab
      clear h5
      have hpos : 0 < rs.length := by omega
      clear h0
      have hnews : ∀ j u, (rqsCells rs)[j]? = some u → w.cell? ((⟨b, o, none⟩ : Addr).add j) = some u := by
        intro j u hj
        have hl := (List.getElem?_eq_some_iff.1 hj).1
        rw [rqsCells_length] at hl
        have : (⟨b, o, none⟩ : Addr).add j = ⟨b, o + j, none⟩ := by unfold Addr.add; split <;> simp_all
        rw [this, hc j hl]
        exact hj
      have HN := Lib.hid hnews
      clear hc hnews
      go_enter Tryz.func252, Tryz.ntmps252
      go_wp2_with (at_builtin; refine wpList_append_lies _ rfl (.const (.slice none 0 0)) (.tmp 3) 39 rfl w.heap.size 38 i0 (.agg #[.int .i64 0, .int .i64 0, .int .i64 0, .int .i64 0, .int .i64 0, .int .i64 0]) 6 48 Tryz.underlying39 hi hz0 hz1 hz2 rfl (by decide) _ 0 [] rfl (World.ownsRow_nil _ _ _ _) ⟨b, o, none⟩ rs.length cap (rqsCells rs) rfl (rqsCells_length rs) HN.out (rqsCells_one rs) hpos ?c3 ?c4 (Nat.le_refl _) w.heap.size rfl ?c6)
      case c3 => unfold maxLen; omega
      case c4 => omega
      case c6 =>
        intro g cap2 w2 hown hgrow hat hlt
        have hg : g = w.heap.size := by
          rcases hat with h | h
          · cases h
          · exact h
        subst hg
        try simp only [Nat.zero_add, List.nil_append] at hown
        have HO := Lib.hid hown
        clear hown hat
        go_wp2
        go_ret
        refine ⟨_, rfl, (Upd.refl _ _).grown hgrow (by intro k hk; cases hk), Reads.of_own HO.out, by simp [blkOf]; exact hlt⟩

end Go.Proofs.YtannckelmojkoaaGreat

/- reqs.Same: are two batches the same? -/
namespace Go.Proofs.YtannckelmojkoaaGreat
open Go.RowKit Go.Heap

def rqAgg (r : Rq) : Value := .agg #[.int .i64 r.client, .int .i64 r.time, .int .i64 r.kind, .int .i64 r.key, .int .i64 r.val, .int .i64 r.sl]

theorem addr_add (b o j : Nat) : (⟨b, o, none⟩ : Addr).add j = ⟨b, o + j, none⟩ := by unfold Addr.add; split <;> simp_all

/-- The cells of element k, as the walk spells them. -/
theorem bat_cells {w : World} {b o : Nat} {rs : List Rq} (hc : ∀ j, j < rs.length * 6 → w.cell? ⟨b, o + j, none⟩ = (rqsCells rs)[j]?) (k : Nat) (p : Rq) (hp : rs[k]? = some p) :
    w.cell? ⟨b, o + k * 6, none⟩ = some (.int .i64 p.client) ∧ w.cell? ⟨b, o + k * 6 + 1, none⟩ = some (.int .i64 p.time) ∧ w.cell? ⟨b, o + k * 6 + 2, none⟩ = some (.int .i64 p.kind) ∧
    w.cell? ⟨b, o + k * 6 + 3, none⟩ = some (.int .i64 p.key) ∧ w.cell? ⟨b, o + k * 6 + 4, none⟩ = some (.int .i64 p.val) ∧ w.cell? ⟨b, o + k * 6 + 5, none⟩ = some (.int .i64 p.sl) := by
  have hk := (List.getElem?_eq_some_iff.1 hp).1
  obtain ⟨e0, e1, e2, e3, e4, e5⟩ := rqsCells_get rs k p hp
  refine ⟨?_, ?_, ?_, ?_, ?_, ?_⟩
  · exact (hc _ (by omega)).trans e0
  · exact (hc (k * 6 + 1) (by omega)).trans e1
  · exact (hc (k * 6 + 2) (by omega)).trans e2
  · exact (hc (k * 6 + 3) (by omega)).trans e3
  · exact (hc (k * 6 + 4) (by omega)).trans e4
  · exact (hc (k * 6 + 5) (by omega)).trans e5

theorem cells_below {w wr : World} {b o n : Nat} {xs : List Value} {B : Nat} (hb : Below B w wr) (hlt : b < B) (hc : ∀ j, j < n → w.cell? ⟨b, o + j, none⟩ = xs[j]?) : ∀ j, j < n → wr.cell? ⟨b, o + j, none⟩ = xs[j]? :=
  fun j hj => (hb.cell (p := ⟨b, o + j, none⟩) hlt).trans (hc j hj)

end Go.Proofs.YtannckelmojkoaaGreat

/- Votes in a slot, and whether they are enough (slot.enough). -/
namespace Go.Proofs.YtannckelmojkoaaGreat
open Go.RowKit Go.Heap

/-- A node's vote in a slot. -/
structure Vt where
  has : Bool
  sl : Int
  batch : List Rq

/-- Votes of a certificate: nodes and their seals. -/
abbrev Vs := List (Int × Int)
def vsCells (l : Vs) : List Value := l.flatMap fun p => [.int .i64 p.1, .int .i64 p.2]
theorem vsCells_get (l : Vs) : ∀ k p, l[k]? = some p → (vsCells l)[k * 2]? = some (.int .i64 p.1) ∧ (vsCells l)[k * 2 + 1]? = some (.int .i64 p.2) := by
  induction l with
  | nil => intro k p h; simp at h
  | cons q l ih =>
    intro k p h
    match k with
    | 0 => simp at h; subst h; exact ⟨rfl, rfl⟩
    | k + 1 =>
      have := ih k p (by simpa using h)
      rw [show (k + 1) * 2 = k * 2 + 2 by omega]
      exact this
/-- v is a list of votes. -/
def Vts (w : World) (v : Value) (l : Vs) : Prop := Reads w v 2 l.length (vsCells l)

/-- Block b holds the votes of all nodes; their batches lie in blocks of D. -/
def VotesAt (w : World) (b : Nat) (vs : List Vt) (D : List Nat) : Prop :=
  ∃ arr, w.heap[b]? = some (.cells arr 371 (0, 0)) ∧ vs.length * 3 ≤ arr.size ∧
    ∀ i t, vs[i]? = some t → ∃ v, arr[i * 3]? = some (.bool t.has) ∧ arr[i * 3 + 1]? = some (.int .i64 t.sl) ∧ arr[i * 3 + 2]? = some v ∧ Bat w v t.batch ∧ ∀ k ∈ blkOf v, k ∈ D

theorem VotesAt.upd {w w' : World} {M : List Nat} {b : Nat} {vs : List Vt} {D : List Nat} (h : VotesAt w b vs D) (hu : Upd M w w') (hb : b ∉ M) (hD : ∀ k ∈ D, k ∉ M) : VotesAt w' b vs D := by
  obtain ⟨arr, h1, h2, h3⟩ := h
  refine ⟨arr, by rw [hu.block b (block_lt h1) hb]; exact h1, h2, fun i t hi => ?_⟩
  obtain ⟨v, a1, a2, a3, a4, a5⟩ := h3 i t hi
  exact ⟨v, a1, a2, a3, a4.upd hu (fun k hk => hD k (a5 k hk)), a5⟩

theorem VotesAt.cells {w : World} {b : Nat} {vs : List Vt} {D : List Nat} (h : VotesAt w b vs D) (i : Nat) (t : Vt) (hi : vs[i]? = some t) :
    ∃ v, w.cell? ⟨b, i * 3, none⟩ = some (.bool t.has) ∧ w.cell? ⟨b, i * 3 + 1, none⟩ = some (.int .i64 t.sl) ∧ w.cell? ⟨b, i * 3 + 2, none⟩ = some v ∧ Bat w v t.batch ∧ b < w.heap.size ∧ (∀ k ∈ blkOf v, k ∈ D) ∧ ∀ o, w.frozen? ⟨b, o, none⟩ = false := by
  obtain ⟨arr, h1, h2, h3⟩ := h
  obtain ⟨v, a1, a2, a3, a4, a5⟩ := h3 i t hi
  exact ⟨v, by rw [block_cell h1]; exact a1, by rw [block_cell h1]; exact a2, by rw [block_cell h1]; exact a3, a4, block_lt h1, a5, block_frozen h1⟩

/-! ### The plain side -/

def goodB (batch : List Rq) (t : Vt) : Bool := t.has && decide (t.batch = batch)

def picks (batch : List Rq) : List Vt → Nat → Vs
  | [], _ => []
  | t :: l, k => if goodB batch t then ((k : Int), t.sl) :: picks batch l (k + 1) else picks batch l (k + 1)

/-- The votes of the lowest q nodes for a batch, if there are so many. -/
def enoughS (l : List Vt) (batch : List Rq) (q : Nat) : Option Vs :=
  if (picks batch l 0).length < q then none else some ((picks batch l 0).take q)

/-! ### ballot -/

set_option maxHeartbeats 400000 in
theorem may_any (f : Int) (w : World) (h1 : 1 ≤ f) (h2 : f ≤ 4) : Calls Tryz.prog 150 #[.int .i64 f] w fun e w' => e = .returned (.bool true) ∧ w = w' := by
  go_enter Tryz.func150, Tryz.ntmps150
  go_wp2
  go_ret
  exact ⟨rfl, rfl⟩

set_option maxHeartbeats 400000 in
theorem quorum_any (f : Int) (w : World) (h1 : 1 ≤ f) (h2 : f ≤ 4) : Calls Tryz.prog 213 #[.int .i64 f] w fun e w' => e = .returned (.int .i64 (2 * f + 1)) ∧ w = w' := by
  go_enter Tryz.func213, Tryz.ntmps213
  go_wp2_with fail
  refine (may_any f _ h1 h2).mono ?_
  rintro e w' ⟨rfl, rfl⟩
  go_wp2_with fail
  go_ret
  exact ⟨rfl, rfl⟩

set_option maxHeartbeats 400000 in
theorem nodes_any (f : Int) (w : World) (h1 : 1 ≤ f) (h2 : f ≤ 4) : Calls Tryz.prog 80 #[.int .i64 f] w fun e w' => e = .returned (.int .i64 (3 * f + 1)) ∧ w = w' := by
  go_enter Tryz.func80, Tryz.ntmps80
  go_wp2_with fail
  refine (may_any f _ h1 h2).mono ?_
  rintro e w' ⟨rfl, rfl⟩
  go_wp2_with fail
  go_ret
  exact ⟨rfl, rfl⟩

end Go.Proofs.YtannckelmojkoaaGreat

/- slot.enough: the votes of the lowest nodes for a batch. -/
namespace Go.Proofs.YtannckelmojkoaaGreat
open Go.RowKit Go.Heap

theorem Tryz.infoVote : (Tryz.prog.info? 177).map (fun i => (i.zero, i.size, i.bytes)) = some (some (.agg #[.int .i64 0, .int .i64 0]), 2, 16) := by kernel_rfl

theorem bat_form {w : World} {v : Value} {rs : List Rq} (h : Bat w v rs) : ∃ ao cap, v = .slice ao rs.length cap := let ⟨ao, cap, hv, _⟩ := h; ⟨ao, cap, hv⟩

end Go.Proofs.YtannckelmojkoaaGreat

/- The slot in memory, and what its functions do to it. -/
namespace Go.Proofs.YtannckelmojkoaaGreat
open Go.RowKit Go.Heap

/-- A slot, as the document has it. -/
structure Sl where
  has : Bool
  batch : List Rq
  ps : List Vt
  cs : List Vt

def noVt : Vt := ⟨false, 0, []⟩

/-- The slot s in memory: its own block s, its votes in blocks bp and bc, its batches in blocks of D. -/
structure SlotAt (w : World) (s bp bc cp cq : Nat) (f : Nat) (st : Sl) (D : List Nat) : Prop where
  f1 : 1 ≤ f
  f2 : f ≤ 4
  own : ∃ v, w.heap[s]? = some (.cells #[.int .i64 f, .bool st.has, v, .slice (some ⟨bp, 0, none⟩) (3 * f + 1) cp, .slice (some ⟨bc, 0, none⟩) (3 * f + 1) cq] 307 (0, 0)) ∧ Bat w v st.batch ∧ ∀ k ∈ blkOf v, k ∈ D
  ps : VotesAt w bp st.ps D
  cs : VotesAt w bc st.cs D
  pl : st.ps.length = 3 * f + 1
  cl : st.cs.length = 3 * f + 1
  sp : s ≠ bp
  sc : s ≠ bc
  pc : bp ≠ bc
  Ds : s ∉ D
  Dp : bp ∉ D
  Dc : bc ∉ D
  Dw : ∀ k ∈ D, k < w.heap.size
  small : st.batch.length ≤ 100000 ∧ (∀ t ∈ st.ps, t.batch.length ≤ 100000) ∧ ∀ t ∈ st.cs, t.batch.length ≤ 100000

theorem SlotAt.upd {w w' : World} {M : List Nat} {s bp bc cp cq f : Nat} {st : Sl} {D : List Nat} (h : SlotAt w s bp bc cp cq f st D) (hu : Upd M w w') (h1 : s ∉ M) (h2 : bp ∉ M) (h3 : bc ∉ M) (hD : ∀ k ∈ D, k ∉ M) : SlotAt w' s bp bc cp cq f st D := by
  obtain ⟨v, a1, a2, a3⟩ := h.own
  exact { h with
    own := ⟨v, by rw [hu.block s (block_lt a1) h1]; exact a1, a2.upd hu (fun k hk => hD k (a3 k hk)), a3⟩
    ps := h.ps.upd hu h2 hD
    cs := h.cs.upd hu h3 hD
    Dw := fun k hk => Nat.lt_of_lt_of_le (h.Dw k hk) hu.size }

/-- The cells that the walk wants. -/
theorem SlotAt.cells {w : World} {s bp bc cp cq f : Nat} {st : Sl} {D : List Nat} (h : SlotAt w s bp bc cp cq f st D) :
    ∃ ao cap, s < w.heap.size ∧ bp < w.heap.size ∧ bc < w.heap.size ∧ w.cell? ⟨s, 0, none⟩ = some (.int .i64 f) ∧ w.cell? ⟨s, 1, none⟩ = some (.bool st.has) ∧ w.cell? ⟨s, 2, none⟩ = some (.slice ao st.batch.length cap) ∧
      w.cell? ⟨s, 3, none⟩ = some (.slice (some ⟨bp, 0, none⟩) (3 * f + 1) cp) ∧ w.cell? ⟨s, 4, none⟩ = some (.slice (some ⟨bc, 0, none⟩) (3 * f + 1) cq) ∧ (∀ o, w.frozen? ⟨s, o, none⟩ = false) ∧
      Bat w (.slice ao st.batch.length cap) st.batch ∧ (∀ k ∈ blkOf (.slice ao st.batch.length cap), k ∈ D) ∧
      w.heap[s]? = some (.cells #[.int .i64 f, .bool st.has, .slice ao st.batch.length cap, .slice (some ⟨bp, 0, none⟩) (3 * f + 1) cp, .slice (some ⟨bc, 0, none⟩) (3 * f + 1) cq] 307 (0, 0)) := by
  obtain ⟨v, a1, a2, a3⟩ := h.own
  obtain ⟨ao, cap, rfl⟩ := bat_form a2
  obtain ⟨arr, p1, _, _⟩ := h.ps
  obtain ⟨arr', c1, _, _⟩ := h.cs
  exact ⟨ao, cap, block_lt a1, block_lt p1, block_lt c1, by rw [block_cell a1]; rfl, by rw [block_cell a1]; rfl, by rw [block_cell a1]; rfl, by rw [block_cell a1]; rfl, by rw [block_cell a1]; rfl, block_frozen a1, a2, a3, a1⟩

/-! ### New, Reset -/

def zv (n : Nat) : Array Value := madeCells #[.bool false, .int .i64 0, .slice none 0 0] (n * 3)

theorem zv_size (n : Nat) : (zv n).size = n * 3 := by simp [zv, size_madeCells]

theorem zv_votes {w : World} {b n : Nat} {D : List Nat} (h : w.heap[b]? = some (.cells (zv n) 371 (0, 0))) : VotesAt w b (List.replicate n noVt) D := by
  refine ⟨zv n, h, by rw [zv_size, List.length_replicate]; exact Nat.le_refl _, fun i t hi => ?_⟩
  have hin : i < n := by simpa using (List.getElem?_eq_some_iff.1 hi).1
  rw [List.getElem?_replicate, if_pos hin] at hi
  cases hi
  have key : ∀ j, j < n * 3 → (zv n)[j]? = some ((#[.bool false, .int .i64 0, .slice none 0 0] : Array Value)[j % 3]!) := by
    intro j hj
    simp [zv, madeCells, hj]
  refine ⟨.slice none 0 0, ?_, ?_, ?_, Reads.nil _ _, by simp [blkOf]⟩
  · rw [key _ (by omega), show i * 3 % 3 = 0 by omega]; rfl
  · rw [key _ (by omega), show (i * 3 + 1) % 3 = 1 by omega]; rfl
  · rw [key _ (by omega), show (i * 3 + 2) % 3 = 2 by omega]; rfl

theorem Tryz.infoSv : (Tryz.prog.info? 371).map (fun i => (i.zero, i.size, i.bytes)) = some (some (.agg #[.bool false, .int .i64 0, .slice none 0 0]), 3, 40) := by kernel_rfl

theorem run_make_votes (f : Nat) (h2 : f ≤ 4) (wx : World) : (Instr.makeSlice 305 (.int .i64 (3 * (f : Int) + 1)) (.int .i64 (3 * (f : Int) + 1))).run Tryz.prog wx = .ok (.slice (some ⟨wx.heap.size, 0, none⟩) (3 * f + 1) (3 * f + 1)) (wx.alloc (.cells (zv (3 * f + 1)) 371)) := by
  obtain ⟨i0, hi, hz0, hz1, hz2⟩ := info_parts Tryz.infoSv
  have := run_make (P := Tryz.prog) wx 305 371 i0 _ Tryz.underlying305 hi hz0 .i64 .i64 (3 * (f : Int) + 1) (3 * (f : Int) + 1) (by omega) (by omega) (by rw [hz2]; omega) (by omega)
  rw [show (3 * (f : Int) + 1).toNat = 3 * f + 1 by omega, hz1] at this
  exact this

/-- What Reset leaves. -/
def ResetPost (w : World) (s f : Nat) (e : Ending) (w' : World) : Prop :=
  e = .returned (.tuple #[]) ∧ ∃ bp bc, bp ≠ bc ∧ w.heap.size ≤ bp ∧ w.heap.size ≤ bc ∧ Upd [s] w w' ∧
    w'.heap[s]? = some (.cells #[.int .i64 f, .bool false, .slice none 0 0, .slice (some ⟨bp, 0, none⟩) (3 * f + 1) (3 * f + 1), .slice (some ⟨bc, 0, none⟩) (3 * f + 1) (3 * f + 1)] 307 (0, 0)) ∧
    w'.heap[bp]? = some (.cells (zv (3 * f + 1)) 371 (0, 0)) ∧ w'.heap[bc]? = some (.cells (zv (3 * f + 1)) 371 (0, 0))

set_option maxHeartbeats 400000 in
theorem reset_walk (s : Nat) (f : Nat) (h1 : 1 ≤ f) (h2 : f ≤ 4) (w : World) (a1 a2 a3 a4 : Value) (hb : w.heap[s]? = some (.cells #[.int .i64 f, a1, a2, a3, a4] 307 (0, 0))) :
    Calls Tryz.prog 214 #[.pointer (some ⟨s, 0, none⟩)] w (ResetPost w s f) := by
  have hs : s < w.heap.size := block_lt hb
  have c0 : w.cell? ⟨s, 0, none⟩ = some (.int .i64 f) := by rw [block_cell hb]; rfl
  have c1 : w.cell? ⟨s, 1, none⟩ = some a1 := by rw [block_cell hb]; rfl
  have c2 : w.cell? ⟨s, 2, none⟩ = some a2 := by rw [block_cell hb]; rfl
  have c3 : w.cell? ⟨s, 3, none⟩ = some a3 := by rw [block_cell hb]; rfl
  have c4 : w.cell? ⟨s, 4, none⟩ = some a4 := by rw [block_cell hb]; rfl
  have f1 := block_frozen hb 1
  have f2 := block_frozen hb 2
  have f3 := block_frozen hb 3
  have f4 := block_frozen hb 4
  have HB := Lib.hid hb
  clear hb
  have hmk := fun wx => run_make_votes f h2 wx
  go_enter Tryz.func214, Tryz.ntmps214
  go_wp2_with fail
  refine (nodes_any f _ (by omega) (by omega)).mono ?_
  rintro e w' ⟨rfl, rfl⟩
  go_wp2_with fail
  go_region
  all_goals go_wp2
  all_goals go_end0
  · refine ⟨rfl, w.heap.size, w.heap.size + 1, by omega, by omega, by omega, ?_, ?_, ?_, ?_⟩
    · exact (((((((Upd.refl _ _).setCell (.inl (by simp)) _).setCell (.inl (by simp)) _).setCell (.inl (by simp)) _).setCell (.inl (by simp)) _).alloc _).alloc _).drew
    · rw [hp_drew, hp_old (by simp; omega), hp_old (by simp; omega), hp_same rfl, hp_same rfl, hp_same rfl, hp_same rfl, HB.out]; rfl
    · rw [hp_drew, hp_old (by simp), hp_new (by simp)]
    · rw [hp_drew, hp_new (by simp)]
  · refine ⟨rfl, w.heap.size + 1, w.heap.size, by omega, by omega, by omega, ?_, ?_, ?_, ?_⟩
    · exact (((((((Upd.refl _ _).setCell (.inl (by simp)) _).setCell (.inl (by simp)) _).setCell (.inl (by simp)) _).setCell (.inl (by simp)) _).alloc _).alloc _).drew
    · rw [hp_drew, hp_old (by simp; omega), hp_old (by simp; omega), hp_same rfl, hp_same rfl, hp_same rfl, hp_same rfl, HB.out]; rfl
    · rw [hp_drew, hp_new (by simp)]
    · rw [hp_drew, hp_old (by simp), hp_new (by simp)]

def emptySl (f : Nat) : Sl := ⟨false, [], List.replicate (3 * f + 1) noVt, List.replicate (3 * f + 1) noVt⟩

theorem slot_empty {w : World} {s bp bc f : Nat} (h1 : 1 ≤ f) (h2 : f ≤ 4) (hs : w.heap[s]? = some (.cells #[.int .i64 f, .bool false, .slice none 0 0, .slice (some ⟨bp, 0, none⟩) (3 * f + 1) (3 * f + 1), .slice (some ⟨bc, 0, none⟩) (3 * f + 1) (3 * f + 1)] 307 (0, 0)))
    (hp : w.heap[bp]? = some (.cells (zv (3 * f + 1)) 371 (0, 0))) (hc : w.heap[bc]? = some (.cells (zv (3 * f + 1)) 371 (0, 0))) (e1 : s ≠ bp) (e2 : s ≠ bc) (e3 : bp ≠ bc) : SlotAt w s bp bc (3 * f + 1) (3 * f + 1) f (emptySl f) [] where
  f1 := h1
  f2 := h2
  own := ⟨_, hs, Reads.nil _ _, by simp [blkOf]⟩
  ps := zv_votes hp
  cs := zv_votes hc
  pl := by simp [emptySl]
  cl := by simp [emptySl]
  sp := e1
  sc := e2
  pc := e3
  Ds := by simp
  Dp := by simp
  Dc := by simp
  Dw := by simp
  small := by
    refine ⟨by simp [emptySl], ?_, ?_⟩
    · intro t ht; simp [emptySl] at ht; simp [ht, noVt]
    · intro t ht; simp [emptySl] at ht; simp [ht, noVt]

set_option maxHeartbeats 400000 in
theorem slot_new (f : Nat) (h1 : 1 ≤ f) (h2 : f ≤ 4) (w : World) :
    Calls Tryz.prog 151 #[.int .i64 f] w fun e w' => ∃ s bp bc, e = .returned (.tuple #[.pointer (some ⟨s, 0, none⟩), .int .i64 0]) ∧ Upd [] w w' ∧ w.heap.size ≤ s ∧ w.heap.size ≤ bp ∧ w.heap.size ≤ bc ∧ SlotAt w' s bp bc (3 * f + 1) (3 * f + 1) f (emptySl f) [] := by
  go_enter Tryz.func151, Tryz.ntmps151
  go_wp2_with fail
  refine (reset_walk w.heap.size f h1 h2 _ _ _ _ _ (heap_alloc_new w _)).mono ?_
  rintro e w1 ⟨rfl, bp, bc, e1, e2, e3, e4, e5, e6, e7⟩
  simp only [hs_alloc] at e2 e3
  have E5 := Lib.hid e5
  have E6 := Lib.hid e6
  have E7 := Lib.hid e7
  clear e5 e6 e7
  go_wp2_with fail
  go_ret2
  exact ⟨w.heap.size, bp, bc, rfl, ((Upd.refl _ _).alloc _).then e4 (by intro i hi; simp at hi; omega), Nat.le_refl _, by omega, by omega, slot_empty h1 h2 E5.out E6.out E7.out (by omega) (by omega) e1⟩

theorem slot_reset {w : World} {s bp bc cp cq f : Nat} {st : Sl} {D : List Nat} (h : SlotAt w s bp bc cp cq f st D) :
    Calls Tryz.prog 214 #[.pointer (some ⟨s, 0, none⟩)] w fun e w' => ∃ bp' bc', e = .returned (.tuple #[]) ∧ Upd [s] w w' ∧ w.heap.size ≤ bp' ∧ w.heap.size ≤ bc' ∧ SlotAt w' s bp' bc' (3 * f + 1) (3 * f + 1) f (emptySl f) [] := by
  obtain ⟨v, a1, a2, a3⟩ := h.own
  refine (reset_walk s f h.f1 h.f2 w _ _ _ _ a1).mono ?_
  rintro e w1 ⟨rfl, bp', bc', e1, e2, e3, e4, e5, e6, e7⟩
  have := block_lt a1
  exact ⟨bp', bc', rfl, e4, e2, e3, slot_empty h.f1 h.f2 e5 e6 e7 (by omega) (by omega) e1⟩

/-! ### Pre, Chosen -/

/-! ### votes, Vote, Voted -/

def openB (l : List Vt) (node : Int) : Bool := decide (0 ≤ node) && match l[node.toNat]? with | some t => !t.has | none => false

def listOf (st : Sl) (kind : Int) : List Vt := if kind = 4 then st.ps else if kind = 5 then st.cs else []
def canVote (st : Sl) (kind node : Int) : Bool := openB (listOf st kind) node
def voteS (st : Sl) (kind node sl : Int) (rs : List Rq) : Sl :=
  if canVote st kind node then
    if kind = 4 then { st with ps := st.ps.set node.toNat ⟨true, sl, rs⟩ } else { st with cs := st.cs.set node.toNat ⟨true, sl, rs⟩ }
  else st

end Go.Proofs.YtannckelmojkoaaGreat

/- slot.Vote, slot.Voted. -/
namespace Go.Proofs.YtannckelmojkoaaGreat
open Go.RowKit Go.Heap

end Go.Proofs.YtannckelmojkoaaGreat

/- slot.Voted, Chosen, Prepared, Committed. -/
namespace Go.Proofs.YtannckelmojkoaaGreat
open Go.RowKit Go.Heap

/-! ### Chosen -/

def chosenS (st : Sl) : List Rq := if st.has then st.batch else []

set_option maxHeartbeats 400000 in
theorem slot_chosen {w : World} {s bp bc cp cq f : Nat} {st : Sl} {D : List Nat} (h : SlotAt w s bp bc cp cq f st D) :
    Calls Tryz.prog 215 #[.pointer (some ⟨s, 0, none⟩)] w fun e w' => ∃ u, e = .returned (.tuple #[u, .bool st.has]) ∧ Upd [] w w' ∧ Bat w' u (chosenS st) ∧ ∀ k ∈ blkOf u, w.heap.size ≤ k ∧ k < w'.heap.size := by
  have H := Lib.hid h
  obtain ⟨ao, cap, l1, l2, l3, c0, c1, c2, c3, c4, fz, b1, b2, own⟩ := h.cells
  have B1 := Lib.hid b1
  clear b1 own fz b2 h
  unfold chosenS
  cases hhas : st.has with
  | false =>
    rw [hhas] at c1
    clear hhas
    go_enter Tryz.func215, Tryz.ntmps215
    go_wp2_with fail
    go_ret2
    exact ⟨_, rfl, Upd.refl _ _, Reads.nil _ _, by simp [blkOf]⟩
  | true =>
    rw [hhas] at c1
    clear hhas
    go_enter Tryz.func215, Tryz.ntmps215
    go_wp2_with fail
    refine (fresh_any _ st.batch _ H.out.small.1 B1.out).mono ?_
    rintro e w1 ⟨v', rfl, hu, hbat, hnew⟩
    have HBAT := Lib.hid hbat
    have HNEW := Lib.hid hnew
    clear hbat hnew
    go_wp2_with fail
    go_ret2
    exact ⟨_, rfl, hu, HBAT.out, HNEW.out⟩

/-! ### Prepared -/

def preparedS (f : Nat) (st : Sl) : Option Vs := if st.has then enoughS st.ps st.batch (2 * f + 1) else none

end Go.Proofs.YtannckelmojkoaaGreat

/- slot.Committed. -/
namespace Go.Proofs.YtannckelmojkoaaGreat
open Go.RowKit Go.Heap

/-- The first batch for which there are q votes, and these. -/
def committedL (all : List Vt) (q : Nat) : List Vt → Option (List Rq × Vs)
  | [] => none
  | t :: r => if t.has then (match enoughS all t.batch q with | some vs => some (t.batch, vs) | none => committedL all q r) else committedL all q r

def committedS (f : Nat) (st : Sl) : Option (List Rq × Vs) := committedL st.cs (2 * f + 1) st.cs

end Go.Proofs.YtannckelmojkoaaGreat

/- slot.Clone. -/
namespace Go.Proofs.YtannckelmojkoaaGreat
open Go.RowKit Go.Heap

end Go.Proofs.YtannckelmojkoaaGreat

/- The slot's contracts, its blocks behind one name. -/
namespace Go.Proofs.YtannckelmojkoaaGreat
open Go.RowKit Go.Heap

structure Loc where
  s : Nat
  bp : Nat
  bc : Nat
  cp : Nat
  cq : Nat
  f : Nat

def Loc.M (L : Loc) : List Nat := [L.s, L.bp, L.bc]
abbrev Loc.ptr (L : Loc) : Value := .pointer (some ⟨L.s, 0, none⟩)

/-- The slot at L is st; its batches keep out of the blocks A. -/
def On (w : World) (L : Loc) (st : Sl) (A : List Nat) : Prop :=
  ∃ D, SlotAt w L.s L.bp L.bc L.cp L.cq L.f st D ∧ (∀ k ∈ D, k ∉ A) ∧ ∀ k ∈ A, k < w.heap.size

theorem On.upd {w w' : World} {L : Loc} {st : Sl} {A N : List Nat} (h : On w L st A) (hu : Upd N w w') (hN : ∀ k ∈ N, k ∉ L.M ∧ k ∈ A) : On w' L st A := by
  obtain ⟨D, h1, h2, h3⟩ := h
  have hm : ∀ k, k ∈ L.M → k ∉ N := fun k hk hn => (hN k hn).1 hk
  refine ⟨D, h1.upd hu (hm _ (by simp [Loc.M])) (hm _ (by simp [Loc.M])) (hm _ (by simp [Loc.M])) (fun k hk hn => h2 k hk (hN k hn).2), h2, fun k hk => Nat.lt_of_lt_of_le (h3 k hk) hu.size⟩

theorem On.upd0 {w w' : World} {L : Loc} {st : Sl} {A : List Nat} (h : On w L st A) (hu : Upd [] w w') : On w' L st A := h.upd hu (by simp)
theorem On.below {w w' : World} {L : Loc} {st : Sl} {A : List Nat} (h : On w L st A) (hb : Below w.heap.size w w') : On w' L st A := h.upd0 (Upd.of_below hb)
theorem On.alloc {w : World} {L : Loc} {st : Sl} {A : List Nat} (h : On w L st A) (o : Obj) : On (w.alloc o) L st A := h.upd0 ((Upd.refl _ _).alloc o)

theorem On.lt {w : World} {L : Loc} {st : Sl} {A : List Nat} (h : On w L st A) : ∀ k ∈ L.M, k < w.heap.size := by
  obtain ⟨D, h1, _, _⟩ := h
  obtain ⟨_, _, l1, l2, l3, _⟩ := h1.cells
  intro k hk
  simp [Loc.M] at hk
  rcases hk with rfl | rfl | rfl <;> assumption

/-- Keep out of more: of blocks that are there and are none of its own batches'. -/
theorem On.avoid {w : World} {L : Loc} {st : Sl} {A A' : List Nat} (h : On w L st A) (hs : ∀ k ∈ A', k ∈ A) : On w L st A' := by
  obtain ⟨D, h1, h2, h3⟩ := h
  exact ⟨D, h1, fun k hk hn => h2 k hk (hs k hn), fun k hk => h3 k (hs k hk)⟩

theorem on_new (f : Nat) (h1 : 1 ≤ f) (h2 : f ≤ 4) (w : World) :
    Calls Tryz.prog 151 #[.int .i64 f] w fun e w' => ∃ L : Loc, e = .returned (.tuple #[L.ptr, .int .i64 0]) ∧ L.f = f ∧ Upd [] w w' ∧ (∀ k ∈ L.M, w.heap.size ≤ k) ∧ ∀ A, (∀ k ∈ A, k < w'.heap.size) → On w' L (emptySl f) A := by
  refine (slot_new f h1 h2 w).mono ?_
  rintro e w' ⟨s, bp, bc, he, hu, g1, g2, g3, h⟩
  refine ⟨⟨s, bp, bc, 3 * f + 1, 3 * f + 1, f⟩, he, rfl, hu, by simp [Loc.M]; omega, fun A hA => ⟨[], h, by simp, hA⟩⟩

theorem on_chosen {w : World} {L : Loc} {st : Sl} {A : List Nat} (h : On w L st A) :
    Calls Tryz.prog 215 #[L.ptr] w fun e w' => ∃ u, e = .returned (.tuple #[u, .bool st.has]) ∧ Upd [] w w' ∧ On w' L st A ∧ Bat w' u (chosenS st) ∧ ∀ k ∈ blkOf u, w.heap.size ≤ k := by
  have h0 := h
  obtain ⟨D, h1, h2, h3⟩ := h
  refine (slot_chosen h1).mono ?_
  rintro e w' ⟨u, he, hu, hb, hn⟩
  exact ⟨u, he, hu, h0.upd0 hu, hb, fun k hk => (hn k hk).1⟩

end Go.Proofs.YtannckelmojkoaaGreat

/- Helps of the statements: Within, Nodes, Quorum, Same. -/
namespace Go.Proofs.YtannckelmojkoaaGreat
open Go.RowKit Go.Heap

theorem tmod_in (v n : Int) (h : 1 ≤ n) : -n < v.tmod n ∧ v.tmod n < n := by
  have h1 := Int.tmod_lt_of_pos v (show 0 < n by omega)
  have h2 := Int.lt_tmod_of_pos v (show 0 < n by omega)
  exact ⟨h2, h1⟩

theorem tmod_emod (v n : Int) (h : 1 ≤ n) : v % n = if v.tmod n < 0 then v.tmod n + n else v.tmod n := by
  have h1 := Int.mul_tdiv_add_tmod v n
  have h2 := tmod_in v n h
  have h3 : v % n = v.tmod n % n := by
    conv => lhs; rw [← h1]
    rw [Int.mul_add_emod_self_left]
  rw [h3]
  split
  · rw [← Int.add_emod_right, Int.emod_eq_of_lt (by omega) (by omega)]
  · rw [Int.emod_eq_of_lt (by omega) (by omega)]

set_option maxHeartbeats 400000 in
theorem Within_any (v n : Int) (w : World) (h0 : 1 ≤ n) (h1 : n ≤ 1000000) :
    Calls Tryz.prog 16 #[.int .i64 v, .int .i64 n] w fun e w' => e = .returned (.int .i64 (v % n)) ∧ w = w' := by
  obtain ⟨b1, b2⟩ := tmod_in v n h0
  have H := Lib.hid (tmod_emod v n h0)
  go_enter Tryz.func16, Tryz.ntmps16
  go_wp2
  all_goals
    go_ret
    refine ⟨ret_int ?_, rfl⟩
    have h := H.out
    split at h <;> omega

theorem emod_in (v n : Int) (h : 1 ≤ n) : 0 ≤ v % n ∧ v % n < n := ⟨Int.emod_nonneg _ (by omega), Int.emod_lt_of_pos _ (by omega)⟩

set_option maxHeartbeats 400000 in
theorem rnodes_any (f : Int) (w : World) (h1 : 1 ≤ f) (h2 : f ≤ 4) : Calls Tryz.prog 17 #[.int .i64 f] w fun e w' => e = .returned (.int .i64 (3 * f + 1)) ∧ w = w' := by
  go_enter Tryz.func17, Tryz.ntmps17
  go_wp2
  go_ret
  exact ⟨rfl, rfl⟩

set_option maxHeartbeats 400000 in
theorem rquorum_any (f : Int) (w : World) (h1 : 1 ≤ f) (h2 : f ≤ 4) : Calls Tryz.prog 21 #[.int .i64 f] w fun e w' => e = .returned (.int .i64 (2 * f + 1)) ∧ w = w' := by
  go_enter Tryz.func21, Tryz.ntmps21
  go_wp2
  go_ret
  exact ⟨rfl, rfl⟩

theorem vts_cells {w : World} {b o : Nat} {rs : Vs} (hc : ∀ j, j < rs.length * 2 → w.cell? ⟨b, o + j, none⟩ = (vsCells rs)[j]?) (k : Nat) (p : Int × Int) (hp : rs[k]? = some p) :
    w.cell? ⟨b, o + k * 2, none⟩ = some (.int .i64 p.1) ∧ w.cell? ⟨b, o + k * 2 + 1, none⟩ = some (.int .i64 p.2) := by
  have hk := (List.getElem?_eq_some_iff.1 hp).1
  obtain ⟨e0, e1⟩ := vsCells_get rs k p hp
  exact ⟨(hc _ (by omega)).trans e0, (hc (k * 2 + 1) (by omega)).trans e1⟩

end Go.Proofs.YtannckelmojkoaaGreat

/- Slots and batches as resources. -/
namespace Go.Proofs.YtannckelmojkoaaGreat
open Go.RowKit Go.Heap

theorem VotesAt.dep {w w' : World} {b : Nat} {vs : List Vt} {D : List Nat} (h : VotesAt w b vs D) (hk : ∀ k, k = b ∨ k ∈ D → w'.heap[k]? = w.heap[k]?) (hs : w.heap.size ≤ w'.heap.size) : VotesAt w' b vs D := by
  obtain ⟨arr, h1, h2, h3⟩ := h
  refine ⟨arr, by rw [hk b (.inl rfl)]; exact h1, h2, fun i t hi => ?_⟩
  obtain ⟨v, a1, a2, a3, a4, a5⟩ := h3 i t hi
  exact ⟨v, a1, a2, a3, Reads.keep a4 (fun k hkb _ => hk k (.inr (a5 k hkb))) hs, a5⟩

theorem SlotAt.dep {w w' : World} {s bp bc cp cq f : Nat} {st : Sl} {D : List Nat} (h : SlotAt w s bp bc cp cq f st D) (hk : ∀ k, k ∈ [s, bp, bc] ∨ k ∈ D → w'.heap[k]? = w.heap[k]?) (hs : w.heap.size ≤ w'.heap.size) : SlotAt w' s bp bc cp cq f st D := by
  obtain ⟨v, a1, a2, a3⟩ := h.own
  exact { h with
    own := ⟨v, by rw [hk s (by simp)]; exact a1, Reads.keep a2 (fun k hkb _ => hk k (.inr (a3 k hkb))) hs, a3⟩
    ps := h.ps.dep (fun k hkb => hk k (hkb.imp (fun e => by simp [e]) id)) hs
    cs := h.cs.dep (fun k hkb => hk k (hkb.imp (fun e => by simp [e]) id)) hs
    Dw := fun k hkD => Nat.lt_of_lt_of_le (h.Dw k hkD) hs }

def slotR (L : Loc) (st : Sl) : Res where
  M := L.M
  Q := fun w D => SlotAt w L.s L.bp L.bc L.cp L.cq L.f st D
  dep := fun h hk hs => h.dep hk hs
  lt := fun {w D} h k hk => hk.elim (fun hk => On.lt (A := []) ⟨D, h, by simp, by simp⟩ k hk) (fun hk => h.Dw k hk)
  sep := fun h k hk hn => by
    simp [Loc.M] at hk
    rcases hk with rfl | rfl | rfl
    · exact h.Ds hn
    · exact h.Dp hn
    · exact h.Dc hn

/-- A batch that is only read. -/
def BatIn (w : World) (v : Value) (rs : List Rq) (D : List Nat) : Prop := ReadsIn w v 6 rs.length (rqsCells rs) D

theorem Bat.lies {w : World} {v : Value} {rs : List Rq} (h : Bat w v rs) : BatIn w v rs (blkIf rs.length v) := Reads.lies h
theorem BatIn.bat {w : World} {v : Value} {rs : List Rq} {D : List Nat} (h : BatIn w v rs D) : Bat w v rs := h.1

section
variable {B : Nat} {w0 W W' : World} {rs : List Res} {L : Loc} {st : Sl}

theorem own_on (h : Own B w0 W (slotR L st :: rs)) : On W L st (Ms (slotR L st :: rs)) := h.head

theorem own_new (f : Nat) (h1 : 1 ≤ f) (h2 : f ≤ 4) (h : Own B w0 W rs) :
    Calls Tryz.prog 151 #[.int .i64 f] W fun e w' => ∃ L : Loc, e = .returned (.tuple #[L.ptr, .int .i64 0]) ∧ L.f = f ∧ Upd [] W w' ∧ Own B w0 w' (slotR L (emptySl f) :: rs) := by
  refine (on_new f h1 h2 W).mono ?_
  rintro e w' ⟨L, he, hf, hu, hM, hon⟩
  exact ⟨L, he, hf, hu, h.new (r := slotR L (emptySl f)) hu (hon (Ms rs) (fun k hk => Nat.lt_of_lt_of_le (h.lt k hk) hu.size)) hM⟩

theorem own_reset (h : Own B w0 W (slotR L st :: rs)) :
    Calls Tryz.prog 214 #[L.ptr] W fun e w' => ∃ L' : Loc, e = .returned (.tuple #[]) ∧ L'.f = L.f ∧ L'.s = L.s ∧ Upd L.M W w' ∧ Own B w0 w' (slotR L' (emptySl L.f) :: rs) := by
  obtain ⟨D, h1, h2, h3⟩ := own_on h
  refine (slot_reset h1).mono ?_
  rintro e w' ⟨bp, bc, he, hu, g1, g2, h4⟩
  have hu' : Upd L.M W w' := hu.mono (by intro k _ hk; simp at hk; simp [Loc.M, hk])
  refine ⟨⟨L.s, bp, bc, 3 * L.f + 1, 3 * L.f + 1, L.f⟩, he, rfl, rfl, hu', h.step (r' := slotR ⟨L.s, bp, bc, 3 * L.f + 1, 3 * L.f + 1, L.f⟩ (emptySl L.f)) hu' ⟨[], h4, by simp, fun k hk => Nat.lt_of_lt_of_le (h3 k hk) hu.size⟩ (fun k hk => ?_)⟩
  simp [slotR, Loc.M] at hk ⊢
  omega

theorem own_chosen (h : Own B w0 W (slotR L st :: rs)) :
    Calls Tryz.prog 215 #[L.ptr] W fun e w' => ∃ u, e = .returned (.tuple #[u, .bool st.has]) ∧ Upd [] W w' ∧ Bat w' u (chosenS st) ∧ ∀ k ∈ blkOf u, W.heap.size ≤ k := by
  refine (on_chosen (own_on h)).mono ?_
  rintro e w' ⟨u, he, hu, _, hb, hn⟩
  exact ⟨u, he, hu, hb, hn⟩

end
end Go.Proofs.YtannckelmojkoaaGreat

namespace Go.Proofs.YtannckelmojkoaaGreat
open Go.ChangeShapes Go.WideShapes Go.ChangeAt Go.RowKit

theorem Tryz.own : ownKnob Tryz.prog.godebug = none := by kernel_rfl
theorem Tryz.laidOut : laidOutB Tryz.prog = true := by kernel_rfl

theorem trodAll_below {H : Type} {enc : TypeId × Value → H} {P : Program} (hl : laidOutB P = true) {W W' : World} (hb : Below W.heap.size W W') :
    ∀ (ts : List TypeId) (vs : List Value) (ds : List (DataW H)) (ps : List MemPlace), (∀ t ∈ ts, P.readableRec t = true ∧ t < P.types.size) → (∀ x ∈ ps, x.block < W.heap.size) →
      DataW.TrodAll enc P W 0 (fun _ => true) true ts vs ds ps → DataW.TrodAll enc P W' 0 (fun b => decide (b < W.heap.size)) true ts vs ds ps
  | [], [], [], _, _, _, h => h
  | t :: ts, v :: vs, d :: ds, ps, hr, hp, ⟨p, q, h1, h2, he⟩ => by
    subst he
    exact ⟨p, q, Below.trod hl (hr t (by simp)).1 (hr t (by simp)).2 h1 hb (fun x hx => hp x (by simp [hx])), trodAll_below hl hb ts vs ds q (fun t ht => hr t (by simp [ht])) (fun x hx => hp x (by simp [hx])) h2, rfl⟩
  | [], [], _ :: _, _, _, _, h => h.elim
  | [], _ :: _, _, _, _, _, h => by cases ‹List (DataW H)› <;> exact h.elim
  | _ :: _, [], _, _, _, _, h => by cases ‹List (DataW H)› <;> exact h.elim
  | _ :: _, _ :: _, [], _, _, _, h => h.elim

/-- A law that returns true and writes nothing that was there. -/
theorem law_post {H : Type} {enc : TypeId × Value → H} {P : Program} {f : Func} {s : ChangeSpec} (hl : laidOutB P = true) (hv : s.vars = []) (tb : TypeId) (hres : f.resultTypes = #[tb]) (hu : P.underlying tb = some .bool)
    (hr : ∀ t ∈ f.params.toList, P.readableRec t = true ∧ t < P.types.size) {W W' : World} {args : Array Value} {ds gs : List (DataW H)} {before : List MemPlace} (hW : DataW.Whole enc P f.params.toList s.vars false W args.toList ds gs before)
    (hb : Below W.heap.size W W') (hfn : s.fn H (ds ++ gs) = { results := [.lit (.bool true)], args := ds }) : s.post enc P f false true false false W args (.bool true) W' := by
  have hW0 := hW
  obtain ⟨p, q, hA, hV, he, hz, hn⟩ := hW
  rw [hv] at hV
  obtain ⟨hgs, hq⟩ := trodVars_none hV
  subst hgs; subst hq; subst he
  rw [List.append_nil] at hz hW0
  refine ⟨ds, [], p, [], p, [], hW0, ?_, ?_, ?_, hb.frame _, fun h => by cases h⟩
  · rw [hfn, hres]
    exact trodAll_cons_mk (shut_bool hu _) trodAll_mk0
  · rw [hfn]
    exact trodAll_below hl hb _ _ _ _ hr (fun x hx => hW0.lt x hx) hA
  · rw [hv, hfn]
    rfl

end Go.Proofs.YtannckelmojkoaaGreat

/- A slice that came in, element by element: its cells as a list. No program. -/
namespace Go.Heap
open Go Go.ChangeShapes Go.WideShapes Go.ChangeAt Go.RowKit Go.Deep

theorem flat_length {α : Type} {cells : α → List Value} {sz : Nat} (hl : ∀ x, (cells x).length = sz) : ∀ xs : List α, (xs.flatMap cells).length = xs.length * sz
  | [] => by simp
  | x :: xs => by rw [List.flatMap_cons, List.length_append, hl, flat_length hl xs, List.length_cons, Nat.succ_mul]; omega

theorem flat_get {α : Type} {cells : α → List Value} {sz : Nat} (hl : ∀ x, (cells x).length = sz) : ∀ (xs : List α) (i r : Nat) (x : α), xs[i]? = some x → r < sz → (xs.flatMap cells)[i * sz + r]? = (cells x)[r]?
  | [], i, r, x, h, _ => by simp at h
  | y :: ys, 0, r, x, h, hr => by
    simp only [List.getElem?_cons_zero, Option.some.injEq] at h
    subst h
    rw [List.flatMap_cons, List.getElem?_append_left (by rw [hl]; omega), Nat.zero_mul, Nat.zero_add]
  | y :: ys, i + 1, r, x, h, hr => by
    rw [List.flatMap_cons, List.getElem?_append_right (by rw [hl, Nat.succ_mul]; omega), hl]
    rw [show (i + 1) * sz + r - sz = i * sz + r by rw [Nat.succ_mul]; omega]
    exact flat_get hl ys i r x (by simpa using h) hr

section
variable {H : Type} {enc : TypeId × Value → H} {W : World} {P : Program} {base : Nat} {spare : Nat → Bool} {held : Bool}

end
end Go.Heap
