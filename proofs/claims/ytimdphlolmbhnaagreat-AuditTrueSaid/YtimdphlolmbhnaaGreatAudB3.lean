/- Parts of the proof, one behind the other. -/
import Derived.Test.YtimdphlolmbhnaaGreatAudB2
import Derived.Test.YtimdphlolmbhnaaGreatRows
import Derived.Deep.QuietTactic
import Derived.BigQuiet
import Derived.Deep.RegionWith

/- audit's example: the configuration; what is made new. -/
namespace Go.Proofs.YtimdphlolmbhnaaGreat
open Go.RowKit Go.Heap

abbrev cfgCs : Array Value := #[.int .i64 1, .int .i64 2, .int .i64 2, .int .i64 4, .int .i64 64, .int .i64 8, .int .i64 8, .int .i64 8, .int .i64 1, .int .i64 2, .int .i64 12, .int .i64 8, .int .i64 6, .int .i64 2, .int .i64 6]
abbrev cfgV : Value := .agg cfgCs

section
variable {B : Nat} {w0 W W' : World} {ss : List Res}

theorem cwithin (n l m : Int) (w : World) (h1 : l ≤ n) (h2 : n ≤ m) : Calls Tryz.prog 83 #[.int .i64 n, .int .i64 l, .int .i64 m] w fun e w' => e = .returned (.bool true) ∧ w = w' := by
  go_enter Tryz.func83, Tryz.ntmps83
  go_wp2
  go_ret
  exact ⟨rfl, rfl⟩

theorem rwithin (n l m : Int) (w : World) (h1 : l ≤ n) (h2 : n ≤ m) : Calls Tryz.prog 92 #[.int .i64 n, .int .i64 l, .int .i64 m] w fun e w' => e = .returned (.bool true) ∧ w = w' := by
  go_enter Tryz.func92, Tryz.ntmps92
  go_wp2
  go_ret
  exact ⟨rfl, rfl⟩

set_option maxHeartbeats 1600000 in
theorem cvalid (w : World) : Calls Tryz.prog 56 #[cfgV] w fun e w' => e = .returned (.bool true) ∧ Upd [] w w' := by
  go_enter Tryz.func56, Tryz.ntmps56
  go_wp2_with fail
  iterate 15
    refine (cwithin _ _ _ _ (by decide) (by decide)).mono ?_
    rintro e w' ⟨rfl, rfl⟩
    go_wp2_with fail
  go_ret
  exact ⟨rfl, (Upd.refl _ _).alloc _⟩

set_option maxHeartbeats 1600000 in
theorem rvalid (w : World) : Calls Tryz.prog 64 #[cfgV] w fun e w' => e = .returned (.bool true) ∧ Upd [] w w' := by
  go_enter Tryz.func64, Tryz.ntmps64
  go_wp2_with fail
  iterate 15
    refine (rwithin _ _ _ _ (by decide) (by decide)).mono ?_
    rintro e w' ⟨rfl, rfl⟩
    go_wp2_with fail
  go_ret
  exact ⟨rfl, (Upd.refl _ _).alloc _⟩

theorem may_one (w : World) : Calls Tryz.prog 85 #[.int .i64 1] w fun e w' => e = .returned (.bool true) ∧ w = w' := by
  go_enter Tryz.func85, Tryz.ntmps85
  go_wp2
  go_ret
  exact ⟨rfl, rfl⟩

theorem nodes_one (w : World) : Calls Tryz.prog 61 #[.int .i64 1] w fun e w' => e = .returned (.int .i64 4) ∧ w = w' := by
  go_enter Tryz.func61, Tryz.ntmps61
  go_wp2_with fail
  refine (may_one _).mono ?_
  rintro e w' ⟨rfl, rfl⟩
  go_wp2
  go_ret
  exact ⟨rfl, rfl⟩

theorem rnodes_one (w : World) : Calls Tryz.prog 55 #[.int .i64 1] w fun e w' => e = .returned (.int .i64 4) ∧ w = w' := by
  go_enter Tryz.func55, Tryz.ntmps55
  go_wp2
  go_ret
  exact ⟨rfl, rfl⟩

theorem link_new (w : World) : Calls Tryz.prog 84 #[.int .i64 64] w fun e w' => ∃ p, e = .returned (.tuple #[.pointer (some p), .int .i64 0]) ∧ Upd [] w w' := by
  go_enter Tryz.func84, Tryz.ntmps84
  go_wp2
  go_ret2
  exact ⟨_, rfl, (Upd.refl _ _).alloc _⟩

theorem store_new (h : Own B w0 W ss) : Calls Tryz.prog 50 #[] W fun e w' => ∃ p, e = .returned (.pointer (some ⟨p, 0, none⟩)) ∧ Own B w0 w' (blk p (.cells Tryz.zeroCells156 156 (0, 0)) :: ss) := by
  have H := Lib.hid h
  clear h
  go_enter Tryz.func50, Tryz.ntmps50
  go_wp2
  go_ret
  exact ⟨_, rfl, H.out.box _⟩

theorem clock_new (h : Own B w0 W ss) : Calls Tryz.prog 86 #[] W fun e w' => ∃ p, e = .returned (.pointer (some ⟨p, 0, none⟩)) ∧ Own B w0 w' (blk p (.cells #[.int .i64 0, .slice none 0 0] 246 (0, 0)) :: ss) := by
  have H := Lib.hid h
  clear h
  go_enter Tryz.func86, Tryz.ntmps86
  go_wp2
  go_ret
  exact ⟨_, rfl, H.out.box _⟩

theorem prop_new (h : Own B w0 W ss) : Calls Tryz.prog 88 #[.int .i64 1, .int .i64 2] W fun e w' => ∃ p, e = .returned (.tuple #[.pointer (some ⟨p, 0, none⟩), .int .i64 0]) ∧ Own B w0 w' (blk p (.cells #[.int .i64 1, .int .i64 2, .slice none 0 0] 257 (0, 0)) :: ss) := by
  have H := Lib.hid h
  clear h
  go_enter Tryz.func88, Tryz.ntmps88
  go_wp2
  go_ret2
  exact ⟨_, rfl, H.out.box _⟩

theorem flood_new (h : Own B w0 W ss) : Calls Tryz.prog 90 #[.int .i64 8, .int .i64 8] W fun e w' => ∃ p, e = .returned (.tuple #[.pointer (some ⟨p, 0, none⟩), .int .i64 0]) ∧ Own B w0 w' (blk p (.cells #[.int .i64 8, .int .i64 8, .slice none 0 0] 263 (0, 0)) :: ss) := by
  have H := Lib.hid h
  clear h
  go_enter Tryz.func90, Tryz.ntmps90
  go_wp2
  go_ret2
  exact ⟨_, rfl, H.out.box _⟩

end
end Go.Proofs.YtimdphlolmbhnaaGreat

/- audit's example: caches, votes, meters, seals, ledgers that are new. -/
namespace Go.Proofs.YtimdphlolmbhnaaGreat
open Go.RowKit Go.Heap

section
variable {B : Nat} {w0 W W' : World} {ss : List Res}

theorem own_toSeg {b : Nat} {T : TypeId} {cs : Array Value} {vals : List Value} (h : Own B w0 W (blk b (.cells cs T (0, 0)) :: ss)) (e : cs.toList = vals) : Own B w0 W (segR b T vals :: ss) := by
  subst e
  exact h.alter ⟨[], ⟨⟨cs, h.blk_out, by simp, fun j hj => by simp⟩, rfl⟩, by simp, fun k hk => h.lt k hk⟩ (fun k hk => hk)

def rpCells (r : Int × Int) : List Value := [.int .i64 r.1, .int .i64 r.2]

theorem made_rp0 : (madeCells #[.int .i64 0, .int .i64 0] (0 * 2)).toList = (List.replicate 0 ((0 : Int), (0 : Int))).flatMap rpCells := by kernel_rfl
theorem made_rp1 : (madeCells #[.int .i64 0, .int .i64 0] (1 * 2)).toList = (List.replicate 1 ((0 : Int), (0 : Int))).flatMap rpCells := by kernel_rfl
theorem made_rp2 : (madeCells #[.int .i64 0, .int .i64 0] (2 * 2)).toList = (List.replicate 2 ((0 : Int), (0 : Int))).flatMap rpCells := by kernel_rfl
theorem made_rp3 : (madeCells #[.int .i64 0, .int .i64 0] (3 * 2)).toList = (List.replicate 3 ((0 : Int), (0 : Int))).flatMap rpCells := by kernel_rfl
theorem made_rp4 : (madeCells #[.int .i64 0, .int .i64 0] (4 * 2)).toList = (List.replicate 4 ((0 : Int), (0 : Int))).flatMap rpCells := by kernel_rfl
theorem made_rp (n : Nat) (h : n ≤ 4) : (madeCells #[.int .i64 0, .int .i64 0] (n * 2)).toList = (List.replicate n ((0 : Int), (0 : Int))).flatMap rpCells := by
  have : n = 0 ∨ n = 1 ∨ n = 2 ∨ n = 3 ∨ n = 4 := by omega
  rcases this with rfl | rfl | rfl | rfl | rfl
  · exact made_rp0
  · exact made_rp1
  · exact made_rp2
  · exact made_rp3
  · exact made_rp4

theorem Tryz.infoRp : (Tryz.prog.info? 158).map (fun i => (i.zero, i.size, i.bytes)) = some (some (.agg #[.int .i64 0, .int .i64 0]), 2, 16) := by kernel_rfl

theorem run_make_rp (n : Nat) (h2 : n ≤ 4) (wx : World) : (Instr.makeSlice 149 (.int .i64 n) (.int .i64 n)).run Tryz.prog wx = .ok (.slice (some ⟨wx.heap.size, 0, none⟩) n n) (wx.alloc (.cells (madeCells #[.int .i64 0, .int .i64 0] (n * 2)) 158)) := by
  obtain ⟨i0, hi, hz0, hz1, hz2⟩ := info_parts Tryz.infoRp
  have := run_make (P := Tryz.prog) wx 149 158 i0 _ Tryz.underlying149 hi hz0 .i64 .i64 (n : Int) (n : Int) (by omega) (by omega) (by rw [hz2]; omega) (by omega)
  rw [show (n : Int).toNat = n by omega, hz1] at this
  exact this

/-- A cache. -/
def chR (p g : Nat) (cap : Nat) (l : List (Int × Int)) : List Res := [blk p (.cells #[.slice (some ⟨g, 0, none⟩) l.length cap] 151 (0, 0)), segR g 158 (l.flatMap rpCells)]

theorem cache_new (n : Nat) (h1 : 1 ≤ n) (h4 : n ≤ 4) (h : Own B w0 W ss) : Calls Tryz.prog 49 #[.int .i64 n] W fun e w' => ∃ p g, e = .returned (.tuple #[.pointer (some ⟨p, 0, none⟩), .int .i64 0]) ∧ Own B w0 w' (chR p g n (List.replicate n (0, 0)) ++ ss) := by
  have H := Lib.hid h
  clear h
  have hmk := fun wx => run_make_rp n h4 wx
  go_enter Tryz.func49, Tryz.ntmps49
  go_wp2
  go_ret2
  refine ⟨W.heap.size + 1, W.heap.size, rfl, ?_⟩
  have h1 := (own_toSeg (H.out.box (.cells (madeCells #[.int .i64 0, .int .i64 0] (n * 2)) 158)) (made_rp n h4)).box (.cells #[.slice (some ⟨W.heap.size, 0, none⟩) n n] 151 (0, 0))
  simpa [chR] using h1

theorem Tryz.infocv : (Tryz.prog.info? 327).map (fun i => (i.zero, i.size, i.bytes)) = some (some (.agg #[.bool false, .int .i64 0, .int .i64 0]), 3, 24) := by kernel_rfl
theorem run_make_cv (wx : World) : (Instr.makeSlice 258 (.int .i64 4) (.int .i64 4)).run Tryz.prog wx = .ok (.slice (some ⟨wx.heap.size, 0, none⟩) 4 4) (wx.alloc (.cells (madeCells #[.bool false, .int .i64 0, .int .i64 0] (4 * 3)) 327)) := by
  obtain ⟨i0, hi, hz0, hz1, hz2⟩ := info_parts Tryz.infocv
  have := run_make (P := Tryz.prog) wx 258 327 i0 _ Tryz.underlying258 hi hz0 .i64 .i64 (4 : Int) (4 : Int) (by omega) (by omega) (by rw [hz2]; omega) (by omega)
  rw [show (4 : Int).toNat = 4 by omega, hz1] at this
  exact this

theorem Tryz.infocx : (Tryz.prog.info? 330).map (fun i => (i.zero, i.size, i.bytes)) = some (some (.complex .f64 0 0), 1, 16) := by kernel_rfl
theorem run_make_cx (wx : World) : (Instr.makeSlice 264 (.int .i64 2) (.int .i64 2)).run Tryz.prog wx = .ok (.slice (some ⟨wx.heap.size, 0, none⟩) 2 2) (wx.alloc (.cells (madeCells #[.complex .f64 0 0] (2 * 1)) 330)) := by
  obtain ⟨i0, hi, hz0, hz1, hz2⟩ := info_parts Tryz.infocx
  have := run_make (P := Tryz.prog) wx 264 330 i0 _ Tryz.underlying264 hi hz0 .i64 .i64 (2 : Int) (2 : Int) (by omega) (by omega) (by rw [hz2]; omega) (by omega)
  rw [show (2 : Int).toNat = 2 by omega, hz1] at this
  exact this

theorem Tryz.infoi17 : (Tryz.prog.info? 3).map (fun i => (i.zero, i.size, i.bytes)) = some (some (.int .i64 0), 1, 8) := by kernel_rfl
theorem run_make_i17 (wx : World) : (Instr.makeSlice 64 (.int .i64 17) (.int .i64 17)).run Tryz.prog wx = .ok (.slice (some ⟨wx.heap.size, 0, none⟩) 17 17) (wx.alloc (.cells (madeCells #[.int .i64 0] (17 * 1)) 3)) := by
  obtain ⟨i0, hi, hz0, hz1, hz2⟩ := info_parts Tryz.infoi17
  have := run_make (P := Tryz.prog) wx 64 3 i0 _ Tryz.underlying64 hi hz0 .i64 .i64 (17 : Int) (17 : Int) (by omega) (by omega) (by rw [hz2]; omega) (by omega)
  rw [show (17 : Int).toNat = 17 by omega, hz1] at this
  exact this

theorem Tryz.infopt : (Tryz.prog.info? 309).map (fun i => (i.zero, i.size, i.bytes)) = some (some (.agg #[.int .i64 0, .int .i64 0, .slice none 0 0, .slice none 0 0, .int .i64 0]), 5, 72) := by kernel_rfl
theorem run_make_pt (wx : World) : (Instr.makeSlice 177 (.int .i64 4) (.int .i64 4)).run Tryz.prog wx = .ok (.slice (some ⟨wx.heap.size, 0, none⟩) 4 4) (wx.alloc (.cells (madeCells #[.int .i64 0, .int .i64 0, .slice none 0 0, .slice none 0 0, .int .i64 0] (4 * 5)) 309)) := by
  obtain ⟨i0, hi, hz0, hz1, hz2⟩ := info_parts Tryz.infopt
  have := run_make (P := Tryz.prog) wx 177 309 i0 _ Tryz.underlying177 hi hz0 .i64 .i64 (4 : Int) (4 : Int) (by omega) (by omega) (by rw [hz2]; omega) (by omega)
  rw [show (4 : Int).toNat = 4 by omega, hz1] at this
  exact this

theorem Tryz.infobg : (Tryz.prog.info? 311).map (fun i => (i.zero, i.size, i.bytes)) = some (some (.agg #[.int .i64 0, .int .i64 0, .int .i64 0, .int .i64 0, .int .i64 0, .int .i64 0, .int .i64 0, .slice none 0 0, .slice none 0 0, .slice none 0 0, .slice none 0 0]), 11, 152) := by kernel_rfl
theorem run_make_bg (wx : World) : (Instr.makeSlice 178 (.int .i64 2) (.int .i64 2)).run Tryz.prog wx = .ok (.slice (some ⟨wx.heap.size, 0, none⟩) 2 2) (wx.alloc (.cells (madeCells #[.int .i64 0, .int .i64 0, .int .i64 0, .int .i64 0, .int .i64 0, .int .i64 0, .int .i64 0, .slice none 0 0, .slice none 0 0, .slice none 0 0, .slice none 0 0] (2 * 11)) 311)) := by
  obtain ⟨i0, hi, hz0, hz1, hz2⟩ := info_parts Tryz.infobg
  have := run_make (P := Tryz.prog) wx 178 311 i0 _ Tryz.underlying178 hi hz0 .i64 .i64 (2 : Int) (2 : Int) (by omega) (by omega) (by rw [hz2]; omega) (by omega)
  rw [show (2 : Int).toNat = 2 by omega, hz1] at this
  exact this

theorem change_new (h : Own B w0 W ss) : Calls Tryz.prog 89 #[.int .i64 1] W fun e w' => ∃ (p g : Nat) , e = .returned (.tuple #[.pointer (some ⟨p, 0, none⟩), .int .i64 0]) ∧ Own B w0 w' (blk p (.cells #[.int .i64 1, .slice (some ⟨g, 0, none⟩) 4 4] 260 (0, 0)) :: blk g (.cells (madeCells #[.bool false, .int .i64 0, .int .i64 0] (4 * 3)) 327 (0, 0)) :: ss) := by
  have H := Lib.hid h
  clear h
  have hmk := run_make_cv
  go_enter Tryz.func89, Tryz.ntmps89
  go_wp2_with fail
  refine (nodes_one _).mono ?_
  rintro e w' ⟨rfl, rfl⟩
  go_wp2
  go_ret2
  exact ⟨W.heap.size + 1, W.heap.size, rfl, (H.out.box _).boxAt _ (by simp)⟩

theorem meter_new (h : Own B w0 W ss) : Calls Tryz.prog 91 #[.int .i64 2] W fun e w' => ∃ (p g : Nat) , e = .returned (.tuple #[.pointer (some ⟨p, 0, none⟩), .int .i64 0]) ∧ Own B w0 w' (blk p (.cells #[.slice (some ⟨g, 0, none⟩) 2 2] 266 (0, 0)) :: blk g (.cells (madeCells #[.complex .f64 0 0] (2 * 1)) 330 (0, 0)) :: ss) := by
  have H := Lib.hid h
  clear h
  have hmk := run_make_cx
  go_enter Tryz.func91, Tryz.ntmps91
  go_wp2
  go_ret2
  exact ⟨W.heap.size + 1, W.heap.size, rfl, (H.out.box _).boxAt _ (by simp)⟩

theorem notary_new (h : Own B w0 W ss) : Calls Tryz.prog 59 #[] W fun e w' => ∃ (p m : Nat), e = .returned (.pointer (some ⟨p, 0, none⟩)) ∧ Own B w0 w' (blk p (.cells #[.map (some m)] 162 (0, 0)) :: blk m (.map #[] 0) :: ss) := by
  have H := Lib.hid h
  clear h
  have hmm := @run_makeMap Tryz.prog
  go_enter Tryz.func59, Tryz.ntmps59
  go_wp2
  go_ret
  exact ⟨W.heap.size + 1, W.heap.size, rfl, (H.out.box _).boxAt _ (by simp)⟩

end
end Go.Proofs.YtimdphlolmbhnaaGreat

/- Requests, batches; the copying of a batch (slot.fresh), and whether two are the same (reqs.Same). -/
namespace Go.Proofs.YtimdphlolmbhnaaGreat
open Go.RowKit Go.Heap

theorem ret_int {k : IntKind} {a b : Int} (h : a = b) : Ending.returned (.int k a) = .returned (.int k b) := by rw [h]
theorem ret_bool {a b : Bool} (h : a = b) : Ending.returned (.bool a) = .returned (.bool b) := by rw [h]

structure Rq where
  client : Int
  time : Int
  kind : Int
  key : Int
  val : Int
  sl : Int
deriving DecidableEq

def rqCells (r : Rq) : List Value := [.int .i64 r.client, .int .i64 r.time, .int .i64 r.kind, .int .i64 r.key, .int .i64 r.val, .int .i64 r.sl]
def rqsCells (rs : List Rq) : List Value := rs.flatMap rqCells

theorem rqsCells_length (rs : List Rq) : (rqsCells rs).length = rs.length * 6 := by
  induction rs with
  | nil => rfl
  | cons p ps ih => simp only [rqsCells, List.flatMap_cons, List.length_append] at *; rw [ih]; simp [rqCells]; omega

theorem rqsCells_get (rs : List Rq) : ∀ k p, rs[k]? = some p → (rqsCells rs)[k * 6]? = some (.int .i64 p.client) ∧ (rqsCells rs)[k * 6 + 1]? = some (.int .i64 p.time) ∧ (rqsCells rs)[k * 6 + 2]? = some (.int .i64 p.kind) ∧
    (rqsCells rs)[k * 6 + 3]? = some (.int .i64 p.key) ∧ (rqsCells rs)[k * 6 + 4]? = some (.int .i64 p.val) ∧ (rqsCells rs)[k * 6 + 5]? = some (.int .i64 p.sl) := by
  induction rs with
  | nil => intro k p h; simp at h
  | cons q rs ih =>
    intro k p h
    match k with
    | 0 => simp at h; subst h; exact ⟨rfl, rfl, rfl, rfl, rfl, rfl⟩
    | k + 1 =>
      have := ih k p (by simpa using h)
      rw [show (k + 1) * 6 = k * 6 + 6 by omega]
      exact this

theorem rqsCells_one (rs : List Rq) : ∀ u ∈ rqsCells rs, u.oneCell' = true := by
  intro u hu
  simp only [rqsCells, List.mem_flatMap] at hu
  obtain ⟨r, _, h⟩ := hu
  simp only [rqCells, List.mem_cons, List.not_mem_nil, or_false] at h
  rcases h with rfl | rfl | rfl | rfl | rfl | rfl <;> rfl

/-- v is a batch. -/
def Bat (w : World) (v : Value) (rs : List Rq) : Prop := Reads w v 6 rs.length (rqsCells rs)

theorem Tryz.infoReq : (Tryz.prog.info? 38).map (fun i => (i.zero, i.size, i.bytes)) = some (some (.agg #[.int .i64 0, .int .i64 0, .int .i64 0, .int .i64 0, .int .i64 0, .int .i64 0]), 6, 48) := by kernel_rfl

end Go.Proofs.YtimdphlolmbhnaaGreat

/- reqs.Same: are two batches the same? -/
namespace Go.Proofs.YtimdphlolmbhnaaGreat
open Go.RowKit Go.Heap

def rqAgg (r : Rq) : Value := .agg #[.int .i64 r.client, .int .i64 r.time, .int .i64 r.kind, .int .i64 r.key, .int .i64 r.val, .int .i64 r.sl]

theorem Tryz.stoodReq : Tryz.prog.stoodInHeld 38 = false := by kernel_rfl
theorem Tryz.stoodOp : Tryz.prog.stoodInHeld 36 = false := by kernel_rfl
theorem Tryz.guardReq : Tryz.prog.eqGuardType Tryz.prog.depth 38 = false := by kernel_rfl
theorem Tryz.fieldsReq : Tryz.prog.underlying 38 = some (.struct (Tryz.prog.fieldsOf 38)) := by kernel_rfl
theorem Tryz.fieldsOp : Tryz.prog.underlying 36 = some (.struct (Tryz.prog.fieldsOf 36)) := by kernel_rfl

theorem run_equal_req (r s : Rq) (w : World) : (Op.equalIn 10000 38 (rqAgg r) (rqAgg s)).run Tryz.prog w = .ok (decide (r = s)) w := by
  obtain ⟨a, b, c, d, e, f⟩ := r
  obtain ⟨a', b', c', d', e', f'⟩ := s
  simp [rqAgg, go_sem]
  by_cases h1 : a = a'
  · by_cases h2 : b = b'
    · by_cases h3 : c = c'
      · by_cases h4 : d = d'
        · by_cases h5 : e = e'
          · by_cases h6 : f = f' <;> simp [*]
          · simp [*]
        · simp [*]
      · simp [*]
    · simp [*]
  · simp [*]

theorem addr_add (b o j : Nat) : (⟨b, o, none⟩ : Addr).add j = ⟨b, o + j, none⟩ := by unfold Addr.add; split <;> simp_all

/-- The cells of element k, as the walk spells them. -/
theorem bat_cells {w : World} {b o : Nat} {rs : List Rq} (hc : ∀ j, j < rs.length * 6 → w.cell? ⟨b, o + j, none⟩ = (rqsCells rs)[j]?) (k : Nat) (p : Rq) (hp : rs[k]? = some p) :
    w.cell? ⟨b, o + k * 6, none⟩ = some (.int .i64 p.client) ∧ w.cell? ⟨b, o + k * 6 + 1, none⟩ = some (.int .i64 p.time) ∧ w.cell? ⟨b, o + k * 6 + 2, none⟩ = some (.int .i64 p.kind) ∧
    w.cell? ⟨b, o + k * 6 + 3, none⟩ = some (.int .i64 p.key) ∧ w.cell? ⟨b, o + k * 6 + 4, none⟩ = some (.int .i64 p.val) ∧ w.cell? ⟨b, o + k * 6 + 5, none⟩ = some (.int .i64 p.sl) := by
  have hk := (List.getElem?_eq_some_iff.1 hp).1
  obtain ⟨e0, e1, e2, e3, e4, e5⟩ := rqsCells_get rs k p hp
  refine ⟨?_, ?_, ?_, ?_, ?_, ?_⟩
  · exact (hc _ (by omega)).trans e0
  · exact (hc (k * 6 + 1) (by omega)).trans e1
  · exact (hc (k * 6 + 2) (by omega)).trans e2
  · exact (hc (k * 6 + 3) (by omega)).trans e3
  · exact (hc (k * 6 + 4) (by omega)).trans e4
  · exact (hc (k * 6 + 5) (by omega)).trans e5

theorem cells_below {w wr : World} {b o n : Nat} {xs : List Value} {B : Nat} (hb : Below B w wr) (hlt : b < B) (hc : ∀ j, j < n → w.cell? ⟨b, o + j, none⟩ = xs[j]?) : ∀ j, j < n → wr.cell? ⟨b, o + j, none⟩ = xs[j]? :=
  fun j hj => (hb.cell (p := ⟨b, o + j, none⟩) hlt).trans (hc j hj)

theorem take_same {α : Type} {rs ss : List α} {k : Nat} (h : rs.take k = ss.take k) (hk : k < rs.length) (hk' : k < ss.length) (he : rs[k] = ss[k]) : rs.take (k + 1) = ss.take (k + 1) := by
  rw [List.take_succ_eq_append_getElem hk, List.take_succ_eq_append_getElem hk', h, he]

set_option maxHeartbeats 400000 in
theorem same_any (v u : Value) (rs ss : List Rq) (w : World) (hn : rs.length ≤ 100000) (hm : ss.length ≤ 100000) (h : Bat w v rs) (h' : Bat w u ss) :
    Calls Tryz.prog 80 #[v, u] w fun e w' => e = .returned (.bool (decide (rs = ss))) ∧ Upd [] w w' := by
  obtain ⟨ao, cap, rfl, h1, h2, h3, h4, h5⟩ := h
  obtain ⟨bo, cap', rfl, k1, k2, k3, k4, k5⟩ := h'
  clear h1 h2 h3 h4 k1 k2 k3 k4
  have H5 := Lib.hid h5
  have K5 := Lib.hid k5
  clear h5 k5
  by_cases hlen : rs.length = ss.length
  · have HL := Lib.hid hlen
    have hlb : ((rs.length : Int) != (ss.length : Int)) = false := by simp [hlen]
    have hle1 : rs.length ≤ ss.length := by omega
    have hle2 : ss.length ≤ rs.length := by omega
    clear hlen
    go_enter Tryz.func80, Tryz.ntmps80
    go_wp2_with fail
    go_loopw [14] (fun i wr => ∃ k : Nat, k ≤ rs.length ∧ i = .int .i64 k ∧ rs.take k = ss.take k ∧ Below w.heap.size w wr) (fun i _ => rs.length - (intOf i).toNat)
    case atStart => exact ⟨0, by omega, rfl, by simp, Below.refl _ _⟩
    case round =>
      obtain ⟨k, hk, rfl, he, hb⟩ := hrel
      have HE := Lib.hid he
      clear he
      by_cases hlt : k < rs.length
      · obtain ⟨b, o, rfl, hbs, hc⟩ := H5.out (by omega)
        obtain ⟨b', o', rfl, hbs', hc'⟩ := K5.out (by omega)
        have hlt' : k < ss.length := by omega
        obtain ⟨q0, q1, q2, q3, q4, q5⟩ := bat_cells (cells_below hb hbs hc) k rs[k] (by simp)
        obtain ⟨p0, p1, p2, p3, p4, p5⟩ := bat_cells (cells_below hb hbs' hc') k ss[k] (by simp)
        clear hc hc'
        have hkI : (k : Int) < (ss.length : Int) := by omega
        have hbw : b' < wr.heap.size := Nat.lt_of_lt_of_le hbs' hb.size
        have hbn : b' ≠ wr.heap.size := by omega
        by_cases he : rs[k] = ss[k]
        · have heq : ∀ wx, (Op.equalIn 10000 38 (rqAgg rs[k]) (rqAgg ss[k])).run Tryz.prog wx = .ok true wx := fun wx => by rw [run_equal_req]; simp [he]
          have HEK := Lib.hid he
          clear he
          unfold rqAgg at heq
          have hgd := Tryz.guardReq
          go_wp2_with fail
          go_quiet (fail)
          go_wp2_with fail
          go_roundw
          case rel => exact ⟨k + 1, by omega, by go_num, take_same HE.out hlt hlt' HEK.out, below_drewN (hb.alloc hb.size _) _⟩
          case measure => simp [intOf]; omega
        · have heq : ∀ wx, (Op.equalIn 10000 38 (rqAgg rs[k]) (rqAgg ss[k])).run Tryz.prog wx = .ok false wx := fun wx => by rw [run_equal_req]; simp [he]
          have HEK := Lib.hid he
          clear he
          unfold rqAgg at heq
          have hgd := Tryz.guardReq
          go_wp2_with fail
          go_quiet (fail)
          go_wp2_with fail
          go_ret
          refine ⟨ret_bool ?_, Upd.of_below (below_drewN (hb.alloc hb.size _) _)⟩
          symm
          rw [decide_eq_false_iff_not]
          intro e
          subst e
          exact HEK.out rfl
      · go_wp2_with fail
        go_ret
        refine ⟨ret_bool ?_, Upd.of_below hb⟩
        symm
        rw [decide_eq_true_iff]
        have h1 := HE.out
        rw [List.take_of_length_le (by omega), List.take_of_length_le (by omega)] at h1
        exact h1
  · have hlb : ((rs.length : Int) != (ss.length : Int)) = true := by simp; omega
    have HL := Lib.hid hlen
    clear hlen
    go_enter Tryz.func80, Tryz.ntmps80
    go_wp2_with fail
    go_ret
    refine ⟨ret_bool ?_, Upd.refl _ _⟩
    symm
    rw [decide_eq_false_iff_not]
    intro e
    exact HL.out (by rw [e])

end Go.Proofs.YtimdphlolmbhnaaGreat

/- Votes in a slot, and whether they are enough (slot.enough). -/
namespace Go.Proofs.YtimdphlolmbhnaaGreat
open Go.RowKit Go.Heap

/-- A node's vote in a slot. -/
structure Vt where
  has : Bool
  sl : Int
  batch : List Rq

/-- Votes of a certificate: nodes and their seals. -/
abbrev Vs := List (Int × Int)
def vsCells (l : Vs) : List Value := l.flatMap fun p => [.int .i64 p.1, .int .i64 p.2]
theorem vsCells_length (l : Vs) : (vsCells l).length = l.length * 2 := by
  induction l with
  | nil => rfl
  | cons p ps ih => simp only [vsCells, List.flatMap_cons, List.length_append] at *; rw [ih]; simp; omega
theorem vsCells_get (l : Vs) : ∀ k p, l[k]? = some p → (vsCells l)[k * 2]? = some (.int .i64 p.1) ∧ (vsCells l)[k * 2 + 1]? = some (.int .i64 p.2) := by
  induction l with
  | nil => intro k p h; simp at h
  | cons q l ih =>
    intro k p h
    match k with
    | 0 => simp at h; subst h; exact ⟨rfl, rfl⟩
    | k + 1 =>
      have := ih k p (by simpa using h)
      rw [show (k + 1) * 2 = k * 2 + 2 by omega]
      exact this
theorem vsCells_app (l : Vs) (p : Int × Int) : vsCells (l ++ [p]) = vsCells l ++ [.int .i64 p.1, .int .i64 p.2] := by simp [vsCells]

/-- v is a list of votes. -/
def Vts (w : World) (v : Value) (l : Vs) : Prop := Reads w v 2 l.length (vsCells l)

/-- Block b holds the votes of all nodes; their batches lie in blocks of D. -/
def VotesAt (w : World) (b : Nat) (vs : List Vt) (D : List Nat) : Prop :=
  ∃ arr, w.heap[b]? = some (.cells arr 332 (0, 0)) ∧ vs.length * 3 ≤ arr.size ∧
    ∀ i t, vs[i]? = some t → ∃ v, arr[i * 3]? = some (.bool t.has) ∧ arr[i * 3 + 1]? = some (.int .i64 t.sl) ∧ arr[i * 3 + 2]? = some v ∧ Bat w v t.batch ∧ ∀ k ∈ blkOf v, k ∈ D

theorem VotesAt.upd {w w' : World} {M : List Nat} {b : Nat} {vs : List Vt} {D : List Nat} (h : VotesAt w b vs D) (hu : Upd M w w') (hb : b ∉ M) (hD : ∀ k ∈ D, k ∉ M) : VotesAt w' b vs D := by
  obtain ⟨arr, h1, h2, h3⟩ := h
  refine ⟨arr, by rw [hu.block b (block_lt h1) hb]; exact h1, h2, fun i t hi => ?_⟩
  obtain ⟨v, a1, a2, a3, a4, a5⟩ := h3 i t hi
  exact ⟨v, a1, a2, a3, a4.upd hu (fun k hk => hD k (a5 k hk)), a5⟩

theorem VotesAt.cells {w : World} {b : Nat} {vs : List Vt} {D : List Nat} (h : VotesAt w b vs D) (i : Nat) (t : Vt) (hi : vs[i]? = some t) :
    ∃ v, w.cell? ⟨b, i * 3, none⟩ = some (.bool t.has) ∧ w.cell? ⟨b, i * 3 + 1, none⟩ = some (.int .i64 t.sl) ∧ w.cell? ⟨b, i * 3 + 2, none⟩ = some v ∧ Bat w v t.batch ∧ b < w.heap.size ∧ (∀ k ∈ blkOf v, k ∈ D) ∧ ∀ o, w.frozen? ⟨b, o, none⟩ = false := by
  obtain ⟨arr, h1, h2, h3⟩ := h
  obtain ⟨v, a1, a2, a3, a4, a5⟩ := h3 i t hi
  exact ⟨v, by rw [block_cell h1]; exact a1, by rw [block_cell h1]; exact a2, by rw [block_cell h1]; exact a3, a4, block_lt h1, a5, block_frozen h1⟩

/-! ### The plain side -/

def goodB (batch : List Rq) (t : Vt) : Bool := t.has && decide (t.batch = batch)

def picks (batch : List Rq) : List Vt → Nat → Vs
  | [], _ => []
  | t :: l, k => if goodB batch t then ((k : Int), t.sl) :: picks batch l (k + 1) else picks batch l (k + 1)

theorem picks_app (batch : List Rq) (t : Vt) : ∀ (l : List Vt) (k : Nat), picks batch (l ++ [t]) k = picks batch l k ++ if goodB batch t then [(((k + l.length : Nat) : Int), t.sl)] else [] := by
  intro l
  induction l with
  | nil => intro k; simp [picks]
  | cons s l ih =>
    intro k
    simp only [List.cons_append, picks, ih, List.length_cons]
    rw [show k + 1 + l.length = k + (l.length + 1) by omega]
    split <;> simp

def picked (batch : List Rq) (l : List Vt) (q k : Nat) : Vs := (picks batch (l.take k) 0).take q

theorem picked_zero (batch : List Rq) (l : List Vt) (q : Nat) : picked batch l q 0 = [] := by simp [picked, picks]

theorem picked_le (batch : List Rq) (l : List Vt) (q k : Nat) : (picked batch l q k).length ≤ q := by simp [picked]; omega

theorem picked_succ (batch : List Rq) (l : List Vt) (q k : Nat) (hk : k < l.length) :
    picked batch l q (k + 1) = if goodB batch l[k] && decide ((picked batch l q k).length < q) then picked batch l q k ++ [((k : Int), l[k].sl)] else picked batch l q k := by
  unfold picked
  rw [List.take_succ_eq_append_getElem hk, picks_app, List.length_take, Nat.min_eq_left (by omega), Nat.zero_add]
  generalize picks batch (l.take k) 0 = A
  cases hg : goodB batch l[k]
  · simp
  · by_cases hl : A.length < q
    · have e1 : (A.take q).length < q := by rw [List.length_take]; omega
      rw [if_pos rfl, if_pos (by simp only [Bool.true_and, decide_eq_true_eq]; exact e1), List.take_append, List.take_of_length_le (by omega : A.length ≤ q)]
      congr 1
      rw [List.take_of_length_le (by simp; omega)]
    · have e1 : ¬ (A.take q).length < q := by rw [List.length_take]; omega
      rw [if_pos rfl, if_neg (by simp only [Bool.true_and, decide_eq_true_eq]; exact e1), List.take_append_of_le_length (by omega)]

/-- The votes of the lowest q nodes for a batch, if there are so many. -/
def enoughS (l : List Vt) (batch : List Rq) (q : Nat) : Option Vs :=
  if (picks batch l 0).length < q then none else some ((picks batch l 0).take q)

theorem picked_all (batch : List Rq) (l : List Vt) (q : Nat) : picked batch l q l.length = (picks batch l 0).take q := by simp [picked]

theorem enough_none {l : List Vt} {batch : List Rq} {q : Nat} (h : (picked batch l q l.length).length < q) : enoughS l batch q = none := by
  rw [picked_all, List.length_take] at h
  unfold enoughS
  rw [if_pos (by omega)]

theorem enough_some {l : List Vt} {batch : List Rq} {q : Nat} (h : ¬ (picked batch l q l.length).length < q) : enoughS l batch q = some (picked batch l q l.length) := by
  rw [picked_all, List.length_take] at h
  unfold enoughS
  rw [if_neg (by omega), picked_all]

/-! ### ballot -/

set_option maxHeartbeats 400000 in
theorem may_any (f : Int) (w : World) (h1 : 1 ≤ f) (h2 : f ≤ 4) : Calls Tryz.prog 85 #[.int .i64 f] w fun e w' => e = .returned (.bool true) ∧ w = w' := by
  go_enter Tryz.func85, Tryz.ntmps85
  go_wp2
  go_ret
  exact ⟨rfl, rfl⟩

set_option maxHeartbeats 400000 in
theorem nodes_any (f : Int) (w : World) (h1 : 1 ≤ f) (h2 : f ≤ 4) : Calls Tryz.prog 61 #[.int .i64 f] w fun e w' => e = .returned (.int .i64 (3 * f + 1)) ∧ w = w' := by
  go_enter Tryz.func61, Tryz.ntmps61
  go_wp2_with fail
  refine (may_any f _ h1 h2).mono ?_
  rintro e w' ⟨rfl, rfl⟩
  go_wp2_with fail
  go_ret
  exact ⟨rfl, rfl⟩

end Go.Proofs.YtimdphlolmbhnaaGreat

/- slot.enough: the votes of the lowest nodes for a batch. -/
namespace Go.Proofs.YtimdphlolmbhnaaGreat
open Go.RowKit Go.Heap

theorem Tryz.infoVote : (Tryz.prog.info? 307).map (fun i => (i.zero, i.size, i.bytes)) = some (some (.agg #[.int .i64 0, .int .i64 0]), 2, 16) := by kernel_rfl

theorem owns_form {w : World} {B E sz n : Nat} {v : Value} {xs : List Value} (h : w.ownsRow B E sz v n xs) : ∃ ao cap, v = .slice ao n cap := by
  rcases h.2 with ⟨rfl, rfl⟩ | ⟨g, cap, cur, rfl, _⟩
  · exact ⟨_, _, rfl⟩
  · exact ⟨_, _, rfl⟩

theorem vts_of_own {w : World} {B : Nat} {v : Value} {l : Vs} {n : Nat} (hn : l.length = n) (h : w.ownsRow B 307 2 v n (vsCells l)) : Vts w v l ∧ ∀ k ∈ blkOf v, B ≤ k := by
  subst hn
  rcases h.2 with ⟨rfl, hn⟩ | ⟨g, cap, cur, rfl, hb, _⟩
  · have : l = [] := List.eq_nil_of_length_eq_zero hn
    subst this
    exact ⟨Reads.nil _ _, by simp [blkOf]⟩
  · exact ⟨Reads.of_own h, by simp [blkOf]; exact hb⟩

theorem bat_form {w : World} {v : Value} {rs : List Rq} (h : Bat w v rs) : ∃ ao cap, v = .slice ao rs.length cap := let ⟨ao, cap, hv, _⟩ := h; ⟨ao, cap, hv⟩

end Go.Proofs.YtimdphlolmbhnaaGreat

/- The slot in memory, and what its functions do to it. -/
namespace Go.Proofs.YtimdphlolmbhnaaGreat
open Go.RowKit Go.Heap

/-- A slot, as the document has it. -/
structure Sl where
  has : Bool
  batch : List Rq
  ps : List Vt
  cs : List Vt

def noVt : Vt := ⟨false, 0, []⟩

/-- The slot s in memory: its own block s, its votes in blocks bp and bc, its batches in blocks of D. -/
structure SlotAt (w : World) (s bp bc cp cq : Nat) (f : Nat) (st : Sl) (D : List Nat) : Prop where
  f1 : 1 ≤ f
  f2 : f ≤ 4
  own : ∃ v, w.heap[s]? = some (.cells #[.int .i64 f, .bool st.has, v, .slice (some ⟨bp, 0, none⟩) (3 * f + 1) cp, .slice (some ⟨bc, 0, none⟩) (3 * f + 1) cq] 280 (0, 0)) ∧ Bat w v st.batch ∧ ∀ k ∈ blkOf v, k ∈ D
  ps : VotesAt w bp st.ps D
  cs : VotesAt w bc st.cs D
  pl : st.ps.length = 3 * f + 1
  cl : st.cs.length = 3 * f + 1
  sp : s ≠ bp
  sc : s ≠ bc
  pc : bp ≠ bc
  Ds : s ∉ D
  Dp : bp ∉ D
  Dc : bc ∉ D
  Dw : ∀ k ∈ D, k < w.heap.size
  small : st.batch.length ≤ 100000 ∧ (∀ t ∈ st.ps, t.batch.length ≤ 100000) ∧ ∀ t ∈ st.cs, t.batch.length ≤ 100000

theorem SlotAt.upd {w w' : World} {M : List Nat} {s bp bc cp cq f : Nat} {st : Sl} {D : List Nat} (h : SlotAt w s bp bc cp cq f st D) (hu : Upd M w w') (h1 : s ∉ M) (h2 : bp ∉ M) (h3 : bc ∉ M) (hD : ∀ k ∈ D, k ∉ M) : SlotAt w' s bp bc cp cq f st D := by
  obtain ⟨v, a1, a2, a3⟩ := h.own
  exact { h with
    own := ⟨v, by rw [hu.block s (block_lt a1) h1]; exact a1, a2.upd hu (fun k hk => hD k (a3 k hk)), a3⟩
    ps := h.ps.upd hu h2 hD
    cs := h.cs.upd hu h3 hD
    Dw := fun k hk => Nat.lt_of_lt_of_le (h.Dw k hk) hu.size }

/-- The cells that the walk wants. -/
theorem SlotAt.cells {w : World} {s bp bc cp cq f : Nat} {st : Sl} {D : List Nat} (h : SlotAt w s bp bc cp cq f st D) :
    ∃ ao cap, s < w.heap.size ∧ bp < w.heap.size ∧ bc < w.heap.size ∧ w.cell? ⟨s, 0, none⟩ = some (.int .i64 f) ∧ w.cell? ⟨s, 1, none⟩ = some (.bool st.has) ∧ w.cell? ⟨s, 2, none⟩ = some (.slice ao st.batch.length cap) ∧
      w.cell? ⟨s, 3, none⟩ = some (.slice (some ⟨bp, 0, none⟩) (3 * f + 1) cp) ∧ w.cell? ⟨s, 4, none⟩ = some (.slice (some ⟨bc, 0, none⟩) (3 * f + 1) cq) ∧ (∀ o, w.frozen? ⟨s, o, none⟩ = false) ∧
      Bat w (.slice ao st.batch.length cap) st.batch ∧ (∀ k ∈ blkOf (.slice ao st.batch.length cap), k ∈ D) ∧
      w.heap[s]? = some (.cells #[.int .i64 f, .bool st.has, .slice ao st.batch.length cap, .slice (some ⟨bp, 0, none⟩) (3 * f + 1) cp, .slice (some ⟨bc, 0, none⟩) (3 * f + 1) cq] 280 (0, 0)) := by
  obtain ⟨v, a1, a2, a3⟩ := h.own
  obtain ⟨ao, cap, rfl⟩ := bat_form a2
  obtain ⟨arr, p1, _, _⟩ := h.ps
  obtain ⟨arr', c1, _, _⟩ := h.cs
  exact ⟨ao, cap, block_lt a1, block_lt p1, block_lt c1, by rw [block_cell a1]; rfl, by rw [block_cell a1]; rfl, by rw [block_cell a1]; rfl, by rw [block_cell a1]; rfl, by rw [block_cell a1]; rfl, block_frozen a1, a2, a3, a1⟩

/-! ### New, Reset -/

def zv (n : Nat) : Array Value := madeCells #[.bool false, .int .i64 0, .slice none 0 0] (n * 3)

theorem zv_size (n : Nat) : (zv n).size = n * 3 := by simp [zv, size_madeCells]

theorem zv_votes {w : World} {b n : Nat} {D : List Nat} (h : w.heap[b]? = some (.cells (zv n) 332 (0, 0))) : VotesAt w b (List.replicate n noVt) D := by
  refine ⟨zv n, h, by rw [zv_size, List.length_replicate]; exact Nat.le_refl _, fun i t hi => ?_⟩
  have hin : i < n := by simpa using (List.getElem?_eq_some_iff.1 hi).1
  rw [List.getElem?_replicate, if_pos hin] at hi
  cases hi
  have key : ∀ j, j < n * 3 → (zv n)[j]? = some ((#[.bool false, .int .i64 0, .slice none 0 0] : Array Value)[j % 3]!) := by
    intro j hj
    simp [zv, madeCells, hj]
  refine ⟨.slice none 0 0, ?_, ?_, ?_, Reads.nil _ _, by simp [blkOf]⟩
  · rw [key _ (by omega), show i * 3 % 3 = 0 by omega]; rfl
  · rw [key _ (by omega), show (i * 3 + 1) % 3 = 1 by omega]; rfl
  · rw [key _ (by omega), show (i * 3 + 2) % 3 = 2 by omega]; rfl

theorem Tryz.infoSv : (Tryz.prog.info? 332).map (fun i => (i.zero, i.size, i.bytes)) = some (some (.agg #[.bool false, .int .i64 0, .slice none 0 0]), 3, 40) := by kernel_rfl

theorem run_make_votes (f : Nat) (h2 : f ≤ 4) (wx : World) : (Instr.makeSlice 278 (.int .i64 (3 * (f : Int) + 1)) (.int .i64 (3 * (f : Int) + 1))).run Tryz.prog wx = .ok (.slice (some ⟨wx.heap.size, 0, none⟩) (3 * f + 1) (3 * f + 1)) (wx.alloc (.cells (zv (3 * f + 1)) 332)) := by
  obtain ⟨i0, hi, hz0, hz1, hz2⟩ := info_parts Tryz.infoSv
  have := run_make (P := Tryz.prog) wx 278 332 i0 _ Tryz.underlying278 hi hz0 .i64 .i64 (3 * (f : Int) + 1) (3 * (f : Int) + 1) (by omega) (by omega) (by rw [hz2]; omega) (by omega)
  rw [show (3 * (f : Int) + 1).toNat = 3 * f + 1 by omega, hz1] at this
  exact this

/-- What Reset leaves. -/
def ResetPost (w : World) (s f : Nat) (e : Ending) (w' : World) : Prop :=
  e = .returned (.tuple #[]) ∧ ∃ bp bc, bp ≠ bc ∧ w.heap.size ≤ bp ∧ w.heap.size ≤ bc ∧ Upd [s] w w' ∧
    w'.heap[s]? = some (.cells #[.int .i64 f, .bool false, .slice none 0 0, .slice (some ⟨bp, 0, none⟩) (3 * f + 1) (3 * f + 1), .slice (some ⟨bc, 0, none⟩) (3 * f + 1) (3 * f + 1)] 280 (0, 0)) ∧
    w'.heap[bp]? = some (.cells (zv (3 * f + 1)) 332 (0, 0)) ∧ w'.heap[bc]? = some (.cells (zv (3 * f + 1)) 332 (0, 0))

set_option maxHeartbeats 400000 in
theorem reset_walk (s : Nat) (f : Nat) (h1 : 1 ≤ f) (h2 : f ≤ 4) (w : World) (a1 a2 a3 a4 : Value) (hb : w.heap[s]? = some (.cells #[.int .i64 f, a1, a2, a3, a4] 280 (0, 0))) :
    Calls Tryz.prog 112 #[.pointer (some ⟨s, 0, none⟩)] w (ResetPost w s f) := by
  have hs : s < w.heap.size := block_lt hb
  have c0 : w.cell? ⟨s, 0, none⟩ = some (.int .i64 f) := by rw [block_cell hb]; rfl
  have c1 : w.cell? ⟨s, 1, none⟩ = some a1 := by rw [block_cell hb]; rfl
  have c2 : w.cell? ⟨s, 2, none⟩ = some a2 := by rw [block_cell hb]; rfl
  have c3 : w.cell? ⟨s, 3, none⟩ = some a3 := by rw [block_cell hb]; rfl
  have c4 : w.cell? ⟨s, 4, none⟩ = some a4 := by rw [block_cell hb]; rfl
  have f1 := block_frozen hb 1
  have f2 := block_frozen hb 2
  have f3 := block_frozen hb 3
  have f4 := block_frozen hb 4
  have HB := Lib.hid hb
  clear hb
  have hmk := fun wx => run_make_votes f h2 wx
  go_enter Tryz.func112, Tryz.ntmps112
  go_wp2_with fail
  refine (nodes_any f _ (by omega) (by omega)).mono ?_
  rintro e w' ⟨rfl, rfl⟩
  go_wp2_with fail
  go_region
  all_goals go_wp2
  all_goals go_end0
  · refine ⟨rfl, w.heap.size, w.heap.size + 1, by omega, by omega, by omega, ?_, ?_, ?_, ?_⟩
    · exact (((((((Upd.refl _ _).setCell (.inl (by simp)) _).setCell (.inl (by simp)) _).setCell (.inl (by simp)) _).setCell (.inl (by simp)) _).alloc _).alloc _).drew
    · rw [hp_drew, hp_old (by simp; omega), hp_old (by simp; omega), hp_same rfl, hp_same rfl, hp_same rfl, hp_same rfl, HB.out]; rfl
    · rw [hp_drew, hp_old (by simp), hp_new (by simp)]
    · rw [hp_drew, hp_new (by simp)]
  · refine ⟨rfl, w.heap.size + 1, w.heap.size, by omega, by omega, by omega, ?_, ?_, ?_, ?_⟩
    · exact (((((((Upd.refl _ _).setCell (.inl (by simp)) _).setCell (.inl (by simp)) _).setCell (.inl (by simp)) _).setCell (.inl (by simp)) _).alloc _).alloc _).drew
    · rw [hp_drew, hp_old (by simp; omega), hp_old (by simp; omega), hp_same rfl, hp_same rfl, hp_same rfl, hp_same rfl, HB.out]; rfl
    · rw [hp_drew, hp_new (by simp)]
    · rw [hp_drew, hp_old (by simp), hp_new (by simp)]

def emptySl (f : Nat) : Sl := ⟨false, [], List.replicate (3 * f + 1) noVt, List.replicate (3 * f + 1) noVt⟩

theorem slot_empty {w : World} {s bp bc f : Nat} (h1 : 1 ≤ f) (h2 : f ≤ 4) (hs : w.heap[s]? = some (.cells #[.int .i64 f, .bool false, .slice none 0 0, .slice (some ⟨bp, 0, none⟩) (3 * f + 1) (3 * f + 1), .slice (some ⟨bc, 0, none⟩) (3 * f + 1) (3 * f + 1)] 280 (0, 0)))
    (hp : w.heap[bp]? = some (.cells (zv (3 * f + 1)) 332 (0, 0))) (hc : w.heap[bc]? = some (.cells (zv (3 * f + 1)) 332 (0, 0))) (e1 : s ≠ bp) (e2 : s ≠ bc) (e3 : bp ≠ bc) : SlotAt w s bp bc (3 * f + 1) (3 * f + 1) f (emptySl f) [] where
  f1 := h1
  f2 := h2
  own := ⟨_, hs, Reads.nil _ _, by simp [blkOf]⟩
  ps := zv_votes hp
  cs := zv_votes hc
  pl := by simp [emptySl]
  cl := by simp [emptySl]
  sp := e1
  sc := e2
  pc := e3
  Ds := by simp
  Dp := by simp
  Dc := by simp
  Dw := by simp
  small := by
    refine ⟨by simp [emptySl], ?_, ?_⟩
    · intro t ht; simp [emptySl] at ht; simp [ht, noVt]
    · intro t ht; simp [emptySl] at ht; simp [ht, noVt]

set_option maxHeartbeats 400000 in
theorem slot_new (f : Nat) (h1 : 1 ≤ f) (h2 : f ≤ 4) (w : World) :
    Calls Tryz.prog 101 #[.int .i64 f] w fun e w' => ∃ s bp bc, e = .returned (.tuple #[.pointer (some ⟨s, 0, none⟩), .int .i64 0]) ∧ Upd [] w w' ∧ w.heap.size ≤ s ∧ w.heap.size ≤ bp ∧ w.heap.size ≤ bc ∧ SlotAt w' s bp bc (3 * f + 1) (3 * f + 1) f (emptySl f) [] := by
  go_enter Tryz.func101, Tryz.ntmps101
  go_wp2_with fail
  refine (reset_walk w.heap.size f h1 h2 _ _ _ _ _ (heap_alloc_new w _)).mono ?_
  rintro e w1 ⟨rfl, bp, bc, e1, e2, e3, e4, e5, e6, e7⟩
  simp only [hs_alloc] at e2 e3
  have E5 := Lib.hid e5
  have E6 := Lib.hid e6
  have E7 := Lib.hid e7
  clear e5 e6 e7
  go_wp2_with fail
  go_ret2
  exact ⟨w.heap.size, bp, bc, rfl, ((Upd.refl _ _).alloc _).then e4 (by intro i hi; simp at hi; omega), Nat.le_refl _, by omega, by omega, slot_empty h1 h2 E5.out E6.out E7.out (by omega) (by omega) e1⟩

theorem slot_reset {w : World} {s bp bc cp cq f : Nat} {st : Sl} {D : List Nat} (h : SlotAt w s bp bc cp cq f st D) :
    Calls Tryz.prog 112 #[.pointer (some ⟨s, 0, none⟩)] w fun e w' => ∃ bp' bc', e = .returned (.tuple #[]) ∧ Upd [s] w w' ∧ w.heap.size ≤ bp' ∧ w.heap.size ≤ bc' ∧ SlotAt w' s bp' bc' (3 * f + 1) (3 * f + 1) f (emptySl f) [] := by
  obtain ⟨v, a1, a2, a3⟩ := h.own
  refine (reset_walk s f h.f1 h.f2 w _ _ _ _ a1).mono ?_
  rintro e w1 ⟨rfl, bp', bc', e1, e2, e3, e4, e5, e6, e7⟩
  have := block_lt a1
  exact ⟨bp', bc', rfl, e4, e2, e3, slot_empty h.f1 h.f2 e5 e6 e7 (by omega) (by omega) e1⟩

/-! ### Pre, Chosen -/

theorem bat_lt {w : World} {v : Value} {rs : List Rq} (h : Bat w v rs) (hp : 0 < rs.length) : ∀ k ∈ blkOf v, k < w.heap.size := by
  obtain ⟨ao, cap, rfl, _, _, _, _, h5⟩ := h
  obtain ⟨b, o, rfl, hb, _⟩ := h5 hp
  intro k hk
  simp [blkOf] at hk
  omega

/-- The chosen batch is laid into the slot. -/
theorem slot_with {w1 w2 : World} {s bp bc cp cq f W : Nat} {st : Sl} {D : List Nat} {ao' : Option Addr} {rs : List Rq} {cap' : Nat} {v : Value} (h : SlotAt w1 s bp bc cp cq f st D)
    (hw2 : w2 = (w1.setCell ⟨s, 1, none⟩ (.bool true)).setCell ⟨s, 2, none⟩ (.slice ao' rs.length cap'))
    (own : w1.heap[s]? = some (.cells #[.int .i64 f, .bool st.has, v, .slice (some ⟨bp, 0, none⟩) (3 * f + 1) cp, .slice (some ⟨bc, 0, none⟩) (3 * f + 1) cq] 280 (0, 0)))
    (hb : Bat w1 (.slice ao' rs.length cap') rs) (hn : ∀ k ∈ blkOf (.slice ao' rs.length cap'), W ≤ k ∧ k < w1.heap.size) (l1 : s < W) (l2 : bp < W) (l3 : bc < W) (hl : rs.length ≤ 100000) :
    SlotAt w2 s bp bc cp cq f { st with has := true, batch := rs } (blkOf (.slice ao' rs.length cap') ++ D) := by
  have HU : Upd [s] w1 w2 := by rw [hw2]; exact ((Upd.refl _ _).setCell (.inl (by simp)) _).setCell (.inl (by simp)) _
  have hbs : ∀ b ∈ blkOf (.slice ao' rs.length cap'), b ∉ [s] := by
    intro b hb e
    have := hn b hb
    simp at e
    omega
  have hDs : ∀ k ∈ D, k ∉ [s] := fun k hk e => by
    simp at e
    subst e
    exact h.Ds hk
  have hD' : ∀ x, x < W → x ∉ D → x ∉ blkOf (.slice ao' rs.length cap') ++ D := by
    intro x hx hxD hin
    rcases List.mem_append.1 hin with h1 | h1
    · have := hn x h1; omega
    · exact hxD h1
  have ps := h.ps.upd HU (by simp; exact fun e => h.sp e.symm) hDs
  have cs := h.cs.upd HU (by simp; exact fun e => h.sc e.symm) hDs
  have wid : ∀ {b : Nat} {vs : List Vt}, VotesAt w2 b vs D → VotesAt w2 b vs (blkOf (.slice ao' rs.length cap') ++ D) := by
    intro b vs ⟨arr, a1, a2, a3⟩
    refine ⟨arr, a1, a2, fun i t hi => ?_⟩
    obtain ⟨v, c1, c2, c3, c4, c5⟩ := a3 i t hi
    exact ⟨v, c1, c2, c3, c4, fun k hk => List.mem_append_right _ (c5 k hk)⟩
  exact {
    f1 := h.f1
    f2 := h.f2
    own := ⟨.slice ao' rs.length cap', by rw [hw2, hp_same rfl, hp_same rfl, own]; rfl, hb.upd HU hbs, fun k hk => List.mem_append_left _ hk⟩
    ps := wid ps
    cs := wid cs
    pl := h.pl
    cl := h.cl
    sp := h.sp
    sc := h.sc
    pc := h.pc
    Ds := hD' s l1 h.Ds
    Dp := hD' bp l2 h.Dp
    Dc := hD' bc l3 h.Dc
    Dw := by
      intro k hk
      have hs := HU.size
      rcases List.mem_append.1 hk with h1 | h1
      · have := hn k h1; omega
      · have := h.Dw k h1; omega
    small := ⟨hl, h.small.2⟩ }

/-! ### votes, Vote, Voted -/

/-- Has the node voted, in this list? -/
def votedB (l : List Vt) (node : Int) : Bool := decide (0 ≤ node) && match l[node.toNat]? with | some t => t.has | none => false
def openB (l : List Vt) (node : Int) : Bool := decide (0 ≤ node) && match l[node.toNat]? with | some t => !t.has | none => false

def listOf (st : Sl) (kind : Int) : List Vt := if kind = 4 then st.ps else if kind = 5 then st.cs else []
def canVote (st : Sl) (kind node : Int) : Bool := openB (listOf st kind) node
def voteS (st : Sl) (kind node sl : Int) (rs : List Rq) : Sl :=
  if canVote st kind node then
    if kind = 4 then { st with ps := st.ps.set node.toNat ⟨true, sl, rs⟩ } else { st with cs := st.cs.set node.toNat ⟨true, sl, rs⟩ }
  else st

theorem votes_set {w w2 : World} {b : Nat} {vs : List Vt} {D : List Nat} {i : Nat} {sl : Int} {v' : Value} {rs : List Rq} (h : VotesAt w b vs D)
    (hw2 : w2 = ((w.setCell ⟨b, i * 3, none⟩ (.bool true)).setCell ⟨b, i * 3 + 1, none⟩ (.int .i64 sl)).setCell ⟨b, i * 3 + 2, none⟩ v') (hi : i < vs.length) (hb : Bat w v' rs) (hv : b ∉ blkOf v') (hD : b ∉ D) :
    VotesAt w2 b (vs.set i ⟨true, sl, rs⟩) (blkOf v' ++ D) := by
  have HU : Upd [b] w w2 := by rw [hw2]; exact (((Upd.refl _ _).setCell (.inl (by simp)) _).setCell (.inl (by simp)) _).setCell (.inl (by simp)) _
  obtain ⟨arr, a1, a2, a3⟩ := h
  refine ⟨((arr.setIfInBounds (i * 3) (.bool true)).setIfInBounds (i * 3 + 1) (.int .i64 sl)).setIfInBounds (i * 3 + 2) v', ?_, by simpa using a2, fun j t hj => ?_⟩
  · rw [hw2, hp_same rfl, hp_same rfl, hp_same rfl, a1]; rfl
  · have hjl : j < vs.length := by simpa using (List.getElem?_eq_some_iff.1 hj).1
    by_cases hji : j = i
    · subst hji
      rw [List.getElem?_set_self hjl] at hj
      cases hj
      refine ⟨v', ?_, ?_, ?_, hb.upd HU (by intro k hk e; simp at e; subst e; exact hv hk), fun k hk => List.mem_append_left _ hk⟩
      · rw [Array.getElem?_setIfInBounds_ne (by omega), Array.getElem?_setIfInBounds_ne (by omega), Array.getElem?_setIfInBounds_self, if_pos (by omega)]
      · rw [Array.getElem?_setIfInBounds_ne (by omega), Array.getElem?_setIfInBounds_self, if_pos (by simp; omega)]
      · rw [Array.getElem?_setIfInBounds_self, if_pos (by simp; omega)]
    · rw [List.getElem?_set_ne (Ne.symm hji)] at hj
      obtain ⟨v, c1, c2, c3, c4, c5⟩ := a3 j t hj
      refine ⟨v, ?_, ?_, ?_, c4.upd HU (by intro k hk e; simp at e; subst e; exact hD (c5 k hk)), fun k hk => List.mem_append_right _ (c5 k hk)⟩
      · rw [Array.getElem?_setIfInBounds_ne (by omega), Array.getElem?_setIfInBounds_ne (by omega), Array.getElem?_setIfInBounds_ne (by omega)]; exact c1
      · rw [Array.getElem?_setIfInBounds_ne (by omega), Array.getElem?_setIfInBounds_ne (by omega), Array.getElem?_setIfInBounds_ne (by omega)]; exact c2
      · rw [Array.getElem?_setIfInBounds_ne (by omega), Array.getElem?_setIfInBounds_ne (by omega), Array.getElem?_setIfInBounds_ne (by omega)]; exact c3

/-- What is written where a vote is counted. -/
def Stored (w w' : World) (b i : Nat) (sl : Int) (rs : List Rq) : Prop :=
  ∃ w1 ao cap, Upd [] w w1 ∧ Bat w1 (.slice ao rs.length cap) rs ∧ (∀ k ∈ blkOf (.slice ao rs.length cap), w.heap.size ≤ k ∧ k < w1.heap.size) ∧
    w' = ((w1.setCell ⟨b, i * 3, none⟩ (.bool true)).setCell ⟨b, i * 3 + 1, none⟩ (.int .i64 sl)).setCell ⟨b, i * 3 + 2, none⟩ (.slice ao rs.length cap)

end Go.Proofs.YtimdphlolmbhnaaGreat

/- slot.Vote, slot.Voted. -/
namespace Go.Proofs.YtimdphlolmbhnaaGreat
open Go.RowKit Go.Heap

/-- What a call of Vote does to a slot. -/
def VotePost (w : World) (s bp bc cp cq f : Nat) (st : Sl) (D : List Nat) (kind node sl : Int) (rs : List Rq) (e : Ending) (w' : World) : Prop :=
  e = .returned (.bool (canVote st kind node)) ∧ Upd [bp, bc] w w' ∧ ∃ D', (∀ k ∈ D', k ∈ D ∨ w.heap.size ≤ k) ∧ SlotAt w' s bp bc cp cq f (voteS st kind node sl rs) D'

theorem votePost_no {w : World} {s bp bc cp cq f : Nat} {st : Sl} {D : List Nat} (h : SlotAt w s bp bc cp cq f st D) {kind node sl : Int} {rs : List Rq} (hc : canVote st kind node = false) : VotePost w s bp bc cp cq f st D kind node sl rs (.returned (.bool false)) w :=
  ⟨by rw [hc], Upd.refl _ _, D, fun k hk => .inl hk, by unfold voteS; rw [hc]; exact h⟩

theorem wide_votes {w : World} {b : Nat} {vs : List Vt} {D E : List Nat} (h : VotesAt w b vs D) : VotesAt w b vs (E ++ D) := by
  obtain ⟨arr, a1, a2, a3⟩ := h
  refine ⟨arr, a1, a2, fun i t hi => ?_⟩
  obtain ⟨v, c1, c2, c3, c4, c5⟩ := a3 i t hi
  exact ⟨v, c1, c2, c3, c4, fun k hk => List.mem_append_right _ (c5 k hk)⟩

theorem votePost_yes {w w' : World} {s bp bc cp cq f : Nat} {st : Sl} {D : List Nat} (h : SlotAt w s bp bc cp cq f st D) {kind sl : Int} {node : Nat} {rs : List Rq} {b : Nat} (hc : canVote st kind node = true) (hn : rs.length ≤ 100000)
    (hb : kind = 4 ∧ b = bp ∨ kind = 5 ∧ b = bc) (hnode : node < 3 * f + 1) (hs : Stored w w' b node sl rs) : VotePost w s bp bc cp cq f st D kind node sl rs (.returned (.bool true)) w' := by
  obtain ⟨w1, ao, cap, hu, hbat, hnew, hw'⟩ := hs
  obtain ⟨_, _, l1, l2, l3, _⟩ := h.cells
  have h1 := h.upd hu (by simp) (by simp) (by simp) (by simp)
  have HU : Upd [b] w1 w' := by rw [hw']; exact (((Upd.refl _ _).setCell (.inl (by simp)) _).setCell (.inl (by simp)) _).setCell (.inl (by simp)) _
  have hsz := HU.size
  have hbl : ∀ x, x < w.heap.size → x ∉ blkOf (.slice ao rs.length cap) := fun x hx hin => by have := hnew x hin; omega
  have hbD : b ∉ D := by
    rcases hb with ⟨_, e⟩ | ⟨_, e⟩
    · rw [e]; exact h.Dp
    · rw [e]; exact h.Dc
  have hbw : b < w.heap.size := by
    rcases hb with ⟨_, e⟩ | ⟨_, e⟩
    · rw [e]; exact l2
    · rw [e]; exact l3
  have hDb : ∀ k ∈ D, k ∉ [b] := fun k hk e => by simp at e; subst e; exact hbD hk
  have hbb : ∀ k ∈ blkOf (.slice ao rs.length cap), k ∉ [b] := fun k hk e => by simp at e; subst e; exact hbl _ hbw hk
  obtain ⟨v0, o1, o2, o3⟩ := h1.own
  have hsb : s ≠ b := by
    rcases hb with ⟨_, e⟩ | ⟨_, e⟩
    · rw [e]; exact h.sp
    · rw [e]; exact h.sc
  have own' : ∃ v, w'.heap[s]? = some (.cells #[.int .i64 f, .bool st.has, v, .slice (some ⟨bp, 0, none⟩) (3 * f + 1) cp, .slice (some ⟨bc, 0, none⟩) (3 * f + 1) cq] 280 (0, 0)) ∧ Bat w' v st.batch ∧ ∀ k ∈ blkOf v, k ∈ blkOf (.slice ao rs.length cap) ++ D :=
    ⟨v0, by rw [HU.block s (block_lt o1) (by simpa using hsb)]; exact o1, o2.upd HU (fun k hk => hDb k (o3 k hk)), fun k hk => List.mem_append_right _ (o3 k hk)⟩
  have hD' : ∀ x, x < w.heap.size → x ∉ D → x ∉ blkOf (.slice ao rs.length cap) ++ D := by
    intro x hx hxD hin
    rcases List.mem_append.1 hin with h1 | h1
    · exact hbl x hx h1
    · exact hxD h1
  have hDw : ∀ k ∈ blkOf (.slice ao rs.length cap) ++ D, k < w'.heap.size := by
    intro k hk
    rcases List.mem_append.1 hk with h2 | h2
    · have := hnew k h2; omega
    · have := h1.Dw k h2; omega
  refine ⟨by rw [hc], (hu.mono (by simp)).trans (HU.mono (by intro k _ hk; simp at hk; subst hk; rcases hb with ⟨_, e⟩ | ⟨_, e⟩ <;> simp [e])), blkOf (.slice ao rs.length cap) ++ D, ?_, ?_⟩
  · intro k hk
    rcases List.mem_append.1 hk with hk | hk
    · exact .inr (hnew k hk).1
    · exact .inl hk
  · unfold voteS
    rw [hc, if_pos rfl, Int.toNat_natCast]
    rcases hb with ⟨rfl, rfl⟩ | ⟨rfl, rfl⟩
    · rw [if_pos rfl]
      exact {
        f1 := h.f1, f2 := h.f2, own := own', sp := h.sp, sc := h.sc, pc := h.pc
        ps := votes_set h1.ps hw' (by rw [h.pl]; exact hnode) hbat (hbl _ l2) h.Dp
        cs := wide_votes (h1.cs.upd HU (by simpa using Ne.symm h.pc) hDb)
        pl := by simpa using h.pl
        cl := h.cl
        Ds := hD' s l1 h.Ds, Dp := hD' _ l2 h.Dp, Dc := hD' _ l3 h.Dc, Dw := hDw
        small := ⟨h.small.1, fun t ht => by
          rcases List.mem_or_eq_of_mem_set ht with h2 | h2
          · exact h.small.2.1 t h2
          · rw [h2]; exact hn, h.small.2.2⟩ }
    · rw [if_neg (by omega)]
      exact {
        f1 := h.f1, f2 := h.f2, own := own', sp := h.sp, sc := h.sc, pc := h.pc
        ps := wide_votes (h1.ps.upd HU (by simpa using h.pc) hDb)
        cs := votes_set h1.cs hw' (by rw [h.cl]; exact hnode) hbat (hbl _ l3) h.Dc
        pl := h.pl
        cl := by simpa using h.cl
        Ds := hD' s l1 h.Ds, Dp := hD' _ l2 h.Dp, Dc := hD' _ l3 h.Dc, Dw := hDw
        small := ⟨h.small.1, h.small.2.1, fun t ht => by
          rcases List.mem_or_eq_of_mem_set ht with h2 | h2
          · exact h.small.2.2 t h2
          · rw [h2]; exact hn⟩ }

end Go.Proofs.YtimdphlolmbhnaaGreat

/- slot.Voted, Chosen, Prepared, Committed. -/
namespace Go.Proofs.YtimdphlolmbhnaaGreat
open Go.RowKit Go.Heap

/-! ### Chosen -/

def chosenS (st : Sl) : List Rq := if st.has then st.batch else []

/-! ### Prepared -/

def preparedS (f : Nat) (st : Sl) : Option Vs := if st.has then enoughS st.ps st.batch (2 * f + 1) else none

end Go.Proofs.YtimdphlolmbhnaaGreat

/- slot.Committed. -/
namespace Go.Proofs.YtimdphlolmbhnaaGreat
open Go.RowKit Go.Heap

/-- The first batch for which there are q votes, and these. -/
def committedL (all : List Vt) (q : Nat) : List Vt → Option (List Rq × Vs)
  | [] => none
  | t :: r => if t.has then (match enoughS all t.batch q with | some vs => some (t.batch, vs) | none => committedL all q r) else committedL all q r

def committedS (f : Nat) (st : Sl) : Option (List Rq × Vs) := committedL st.cs (2 * f + 1) st.cs

def batchOf (r : Option (List Rq × Vs)) : List Rq := match r with | some p => p.1 | none => []
def votesOf (r : Option (List Rq × Vs)) : Vs := match r with | some p => p.2 | none => []

def CommittedPost (w : World) (r : Option (List Rq × Vs)) (e : Ending) (w' : World) : Prop :=
  ∃ v u, e = .returned (.tuple #[v, u, .bool r.isSome]) ∧ Below w.heap.size w w' ∧ Bat w' v (batchOf r) ∧ Vts w' u (votesOf r) ∧ (∀ k ∈ blkOf v, w.heap.size ≤ k) ∧ ∀ k ∈ blkOf u, w.heap.size ≤ k

end Go.Proofs.YtimdphlolmbhnaaGreat
