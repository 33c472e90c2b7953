/- Parts of the proof, one behind the other. -/
import Derived.Test.YtannckelmojkoaaGreatAdoB2
import Derived.Test.YtannckelmojkoaaGreatRows
import Derived.Deep.QuietTactic
import Derived.BigQuiet
import Derived.Deep.RegionWith
import Derived.Deep.RegionHeld3
import Derived.WalkKit
import Derived.ProofKit
import Derived.OpenShut
import Derived.Carry
import Derived.Deep.Slices
set_option maxHeartbeats 32000000
set_option maxRecDepth 100000
namespace Go.Proofs.YtannckelmojkoaaGreat
open Go.RowKit Go.Heap
section
variable {B : Nat} {w0 W W' : World} {ss : List Res}
theorem zb5 {b : Nat} {T : TypeId} {cs : Array Value} {vals : List Value} (h : Own B w0 W (blk b (.cells cs T (0, 0)) :: ss)) (e : cs.toList = vals) : Own B w0 W (segR b T vals :: ss) := by
 subst e
 exact h.alter ⟨[], ⟨⟨cs, h.blk_out, by simp, fun j hj => by simp⟩, rfl⟩, by simp, fun k hk => h.lt k hk⟩ (fun k hk => hk)
def zbw (r : Int × Int) : List Value := [.int .i64 r.1, .int .i64 r.2]
theorem zuv : (madeCells #[.int .i64 0, .int .i64 0] (0 * 2)).toList = (List.replicate 0 ((0 : Int), (0 : Int))).flatMap zbw := by kernel_rfl
theorem zvy : (madeCells #[.int .i64 0, .int .i64 0] (1 * 2)).toList = (List.replicate 1 ((0 : Int), (0 : Int))).flatMap zbw := by kernel_rfl
theorem zu3 : (madeCells #[.int .i64 0, .int .i64 0] (2 * 2)).toList = (List.replicate 2 ((0 : Int), (0 : Int))).flatMap zbw := by kernel_rfl
theorem zww : (madeCells #[.int .i64 0, .int .i64 0] (3 * 2)).toList = (List.replicate 3 ((0 : Int), (0 : Int))).flatMap zbw := by kernel_rfl
theorem zuo : (madeCells #[.int .i64 0, .int .i64 0] (4 * 2)).toList = (List.replicate 4 ((0 : Int), (0 : Int))).flatMap zbw := by kernel_rfl
theorem made_rp (n : Nat) (h : n ≤ 4) : (madeCells #[.int .i64 0, .int .i64 0] (n * 2)).toList = (List.replicate n ((0 : Int), (0 : Int))).flatMap zbw := by
 have : n = 0 ∨ n = 1 ∨ n = 2 ∨ n = 3 ∨ n = 4 := by omega
 rcases this with rfl | rfl | rfl | rfl | rfl
 ·exact zuv
 ·exact zvy
 ·exact zu3
 ·exact zww
 ·exact zuo
theorem Tryz.infoRp : (Tryz.prog.info? 286).map (fun i => (i.zero, i.size, i.bytes)) = some (some (.agg #[.int .i64 0, .int .i64 0]), 2, 16) := by kernel_rfl
theorem zmk (n : Nat) (h2 : n ≤ 4) (wx : World) : (Instr.makeSlice 287 (.int .i64 n) (.int .i64 n)).run Tryz.prog wx = .ok (.slice (some ⟨wx.heap.size, 0, none⟩) n n) (wx.alloc (.cells (madeCells #[.int .i64 0, .int .i64 0] (n * 2)) 286)) := by
 obtain ⟨i0, hi, hz0, hz1, hz2⟩ := info_parts Tryz.infoRp
 have := run_make (P := Tryz.prog) wx 287 286 i0 _ Tryz.underlying287 hi hz0 .i64 .i64 (n : Int) (n : Int) (by omega) (by omega) (by rw [hz2]; omega) (by omega)
 rw [show (n : Int).toNat = n by omega, hz1] at this
 exact this
def chR (p g : Nat) (cap : Nat) (l : List (Int × Int)) : List Res := [blk p (.cells #[.slice (some ⟨g, 0, none⟩) l.length cap] 289 (0, 0)), segR g 286 (l.flatMap zbw)]
theorem zqv (n : Nat) (h1 : 1 ≤ n) (h4 : n ≤ 4) (h : Own B w0 W ss) : Calls Tryz.prog 152 #[.int .i64 n] W fun e w' => ∃ p g, e = .returned (.tuple #[.pointer (some ⟨p, 0, none⟩), .int .i64 0]) ∧ Own B w0 w' (chR p g n (List.replicate n (0, 0)) ++ ss) := by
 have H := Lib.hid h
 clear h
 have hmk := fun wx => zmk n h4 wx
 go_enter Tryz.func152, Tryz.ntmps152
 go_wp2
 go_ret2
 refine ⟨W.heap.size + 1, W.heap.size, rfl, ?_⟩
 have h1 := (zb5 (H.out.box (.cells (madeCells #[.int .i64 0, .int .i64 0] (n * 2)) 286)) (made_rp n h4)).box (.cells #[.slice (some ⟨W.heap.size, 0, none⟩) n n] 289 (0, 0))
 simpa [chR] using h1
theorem Tryz.infocv : (Tryz.prog.info? 320).map (fun i => (i.zero, i.size, i.bytes)) = some (some (.agg #[.bool false, .int .i64 0, .int .i64 0]), 3, 24) := by kernel_rfl
theorem zmd (wx : World) : (Instr.makeSlice 245 (.int .i64 4) (.int .i64 4)).run Tryz.prog wx = .ok (.slice (some ⟨wx.heap.size, 0, none⟩) 4 4) (wx.alloc (.cells (madeCells #[.bool false, .int .i64 0, .int .i64 0] (4 * 3)) 320)) := by
 obtain ⟨i0, hi, hz0, hz1, hz2⟩ := info_parts Tryz.infocv
 have := run_make (P := Tryz.prog) wx 245 320 i0 _ Tryz.underlying245 hi hz0 .i64 .i64 (4 : Int) (4 : Int) (by omega) (by omega) (by rw [hz2]; omega) (by omega)
 rw [show (4 : Int).toNat = 4 by omega, hz1] at this
 exact this
theorem Tryz.infocx : (Tryz.prog.info? 269).map (fun i => (i.zero, i.size, i.bytes)) = some (some (.complex .f64 0 0), 1, 16) := by kernel_rfl
theorem zmt (wx : World) : (Instr.makeSlice 169 (.int .i64 2) (.int .i64 2)).run Tryz.prog wx = .ok (.slice (some ⟨wx.heap.size, 0, none⟩) 2 2) (wx.alloc (.cells (madeCells #[.complex .f64 0 0] (2 * 1)) 269)) := by
 obtain ⟨i0, hi, hz0, hz1, hz2⟩ := info_parts Tryz.infocx
 have := run_make (P := Tryz.prog) wx 169 269 i0 _ Tryz.underlying169 hi hz0 .i64 .i64 (2 : Int) (2 : Int) (by omega) (by omega) (by rw [hz2]; omega) (by omega)
 rw [show (2 : Int).toNat = 2 by omega, hz1] at this
 exact this
theorem Tryz.infoi17 : (Tryz.prog.info? 3).map (fun i => (i.zero, i.size, i.bytes)) = some (some (.int .i64 0), 1, 8) := by kernel_rfl
theorem zgr (wx : World) : (Instr.makeSlice 69 (.int .i64 17) (.int .i64 17)).run Tryz.prog wx = .ok (.slice (some ⟨wx.heap.size, 0, none⟩) 17 17) (wx.alloc (.cells (madeCells #[.int .i64 0] (17 * 1)) 3)) := by
 obtain ⟨i0, hi, hz0, hz1, hz2⟩ := info_parts Tryz.infoi17
 have := run_make (P := Tryz.prog) wx 69 3 i0 _ Tryz.underlying69 hi hz0 .i64 .i64 (17 : Int) (17 : Int) (by omega) (by omega) (by rw [hz2]; omega) (by omega)
 rw [show (17 : Int).toNat = 17 by omega, hz1] at this
 exact this
theorem Tryz.infopt : (Tryz.prog.info? 260).map (fun i => (i.zero, i.size, i.bytes)) = some (some (.agg #[.int .i64 0, .int .i64 0, .slice none 0 0, .slice none 0 0, .int .i64 0]), 5, 72) := by kernel_rfl
theorem zmv (wx : World) : (Instr.makeSlice 137 (.int .i64 4) (.int .i64 4)).run Tryz.prog wx = .ok (.slice (some ⟨wx.heap.size, 0, none⟩) 4 4) (wx.alloc (.cells (madeCells #[.int .i64 0, .int .i64 0, .slice none 0 0, .slice none 0 0, .int .i64 0] (4 * 5)) 260)) := by
 obtain ⟨i0, hi, hz0, hz1, hz2⟩ := info_parts Tryz.infopt
 have := run_make (P := Tryz.prog) wx 137 260 i0 _ Tryz.underlying137 hi hz0 .i64 .i64 (4 : Int) (4 : Int) (by omega) (by omega) (by rw [hz2]; omega) (by omega)
 rw [show (4 : Int).toNat = 4 by omega, hz1] at this
 exact this
theorem Tryz.infobg : (Tryz.prog.info? 262).map (fun i => (i.zero, i.size, i.bytes)) = some (some (.agg #[.int .i64 0, .int .i64 0, .int .i64 0, .int .i64 0, .int .i64 0, .int .i64 0, .int .i64 0, .slice none 0 0, .slice none 0 0, .slice none 0 0, .slice none 0 0]), 11, 152) := by kernel_rfl
theorem zm4 (wx : World) : (Instr.makeSlice 138 (.int .i64 2) (.int .i64 2)).run Tryz.prog wx = .ok (.slice (some ⟨wx.heap.size, 0, none⟩) 2 2) (wx.alloc (.cells (madeCells #[.int .i64 0, .int .i64 0, .int .i64 0, .int .i64 0, .int .i64 0, .int .i64 0, .int .i64 0, .slice none 0 0, .slice none 0 0, .slice none 0 0, .slice none 0 0] (2 * 11)) 262)) := by
 obtain ⟨i0, hi, hz0, hz1, hz2⟩ := info_parts Tryz.infobg
 have := run_make (P := Tryz.prog) wx 138 262 i0 _ Tryz.underlying138 hi hz0 .i64 .i64 (2 : Int) (2 : Int) (by omega) (by omega) (by rw [hz2]; omega) (by omega)
 rw [show (2 : Int).toNat = 2 by omega, hz1] at this
 exact this
theorem zp4 (h : Own B w0 W ss) : Calls Tryz.prog 84 #[.int .i64 1] W fun e w' => ∃ (p g : Nat) , e = .returned (.tuple #[.pointer (some ⟨p, 0, none⟩), .int .i64 0]) ∧ Own B w0 w' (blk p (.cells #[.int .i64 1, .slice (some ⟨g, 0, none⟩) 4 4] 247 (0, 0)) :: blk g (.cells (madeCells #[.bool false, .int .i64 0, .int .i64 0] (4 * 3)) 320 (0, 0)) :: ss) := by
 have H := Lib.hid h
 clear h
 have hmk := zmd
 go_enter Tryz.func84, Tryz.ntmps84
 go_wp2_with fail
 refine (zhx _).mono ?_
 rintro e w' ⟨rfl, rfl⟩
 go_wp2
 go_ret2
 exact ⟨W.heap.size + 1, W.heap.size, rfl, (H.out.box _).boxAt _ (by simp)⟩
theorem zrl (h : Own B w0 W ss) : Calls Tryz.prog 87 #[.int .i64 2] W fun e w' => ∃ (p g : Nat) , e = .returned (.tuple #[.pointer (some ⟨p, 0, none⟩), .int .i64 0]) ∧ Own B w0 w' (blk p (.cells #[.slice (some ⟨g, 0, none⟩) 2 2] 254 (0, 0)) :: blk g (.cells (madeCells #[.complex .f64 0 0] (2 * 1)) 269 (0, 0)) :: ss) := by
 have H := Lib.hid h
 clear h
 have hmk := zmt
 go_enter Tryz.func87, Tryz.ntmps87
 go_wp2
 go_ret2
 exact ⟨W.heap.size + 1, W.heap.size, rfl, (H.out.box _).boxAt _ (by simp)⟩
theorem zjy (h : Own B w0 W ss) : Calls Tryz.prog 31 #[] W fun e w' => ∃ (p m : Nat), e = .returned (.pointer (some ⟨p, 0, none⟩)) ∧ Own B w0 w' (blk p (.cells #[.map (some m)] 152 (0, 0)) :: blk m (.map #[] 0) :: ss) := by
 have H := Lib.hid h
 clear h
 have hmm := @run_makeMap Tryz.prog
 go_enter Tryz.func31, Tryz.ntmps31
 go_wp2
 go_ret
 exact ⟨W.heap.size + 1, W.heap.size, rfl, (H.out.box _).boxAt _ (by simp)⟩
end
theorem zfl {k : IntKind} {a b : Int} (h : a = b) : Ending.returned (.int k a) = .returned (.int k b) := by rw [h]
theorem zae {a b : Bool} (h : a = b) : Ending.returned (.bool a) = .returned (.bool b) := by rw [h]
structure Rq where
 client : Int
 time : Int
 kind : Int
 key : Int
 val : Int
 sl : Int
deriving DecidableEq
def za5 (r : Rq) : List Value := [.int .i64 r.client, .int .i64 r.time, .int .i64 r.kind, .int .i64 r.key, .int .i64 r.val, .int .i64 r.sl]
def zam (rs : List Rq) : List Value := rs.flatMap za5
theorem zea (rs : List Rq) : (zam rs).length = rs.length * 6 := by
 induction rs with
 | nil => rfl
 | cons p ps ih => simp only [zam, List.flatMap_cons, List.length_append] at *; rw [ih]; simp [za5]; omega
theorem zko (rs : List Rq) : ∀ k p, rs[k]? = some p → (zam rs)[k * 6]? = some (.int .i64 p.client) ∧ (zam rs)[k * 6 + 1]? = some (.int .i64 p.time) ∧ (zam rs)[k * 6 + 2]? = some (.int .i64 p.kind) ∧
  (zam rs)[k * 6 + 3]? = some (.int .i64 p.key) ∧ (zam rs)[k * 6 + 4]? = some (.int .i64 p.val) ∧ (zam rs)[k * 6 + 5]? = some (.int .i64 p.sl) := by
 induction rs with
 | nil => intro k p h; simp at h
 | cons q rs ih =>
  intro k p h
  match k with
  | 0 => simp at h; subst h; exact ⟨rfl, rfl, rfl, rfl, rfl, rfl⟩
  | k + 1 =>
   have := ih k p (by simpa using h)
   rw [show (k + 1) * 6 = k * 6 + 6 by omega]
   exact this
theorem zdg (rs : List Rq) : ∀ u ∈ zam rs, u.oneCell' = true := by
 intro u hu
 simp only [zam, List.mem_flatMap] at hu
 obtain ⟨r, _, h⟩ := hu
 simp only [za5, List.mem_cons, List.not_mem_nil, or_false] at h
 rcases h with rfl | rfl | rfl | rfl | rfl | rfl <;> rfl
def Bat (w : World) (v : Value) (rs : List Rq) : Prop := Reads w v 6 rs.length (zam rs)
theorem Tryz.infoReq : (Tryz.prog.info? 38).map (fun i => (i.zero, i.size, i.bytes)) = some (some (.agg #[.int .i64 0, .int .i64 0, .int .i64 0, .int .i64 0, .int .i64 0, .int .i64 0]), 6, 48) := by kernel_rfl
theorem zsm (v : Value) (rs : List Rq) (w : World) (hn : rs.length ≤ 100000) (h : Bat w v rs) :
  Calls Tryz.prog 252 #[v] w fun e w' => ∃ v', e = .returned v' ∧ Upd [] w w' ∧ Bat w' v' rs ∧ ∀ k ∈ blkOf v', w.heap.size ≤ k ∧ k < w'.heap.size := by
 obtain ⟨i0, hi, hz0, hz1, hz2⟩ := info_parts Tryz.infoReq
 have h' := h
 obtain ⟨ao, cap, rfl, h1, h2, h3, h4, h5⟩ := h'
 clear h1 h2 h3
 cases ao with
 | none =>
  obtain ⟨hr, rfl⟩ := h4 rfl
  have : rs = [] := List.eq_nil_of_length_eq_zero hr
  subst this
  clear hr h4 h5
  go_enter Tryz.func252, Tryz.ntmps252
  go_wp2
  go_ret
  exact ⟨_, rfl, Upd.refl _ _, Reads.nil _ _, by simp [blkOf]⟩
 | some a =>
  clear h4
  by_cases h0 : rs.length = 0
  ·have : rs = [] := List.eq_nil_of_length_eq_zero h0
   subst this
   clear h5 h0
   go_enter Tryz.func252, Tryz.ntmps252
   go_wp2
   go_ret
   exact ⟨_, rfl, Upd.refl _ _, Reads.nil _ _, by simp [blkOf]⟩
  ·obtain ⟨b, o, hab, hb, hc⟩ := h5 (by omega)
   simp only [Option.some.injEq] at hab
   subst hab
   clear h5
   have hpos : 0 < rs.length := by omega
   clear h0
   have hnews : ∀ j u, (zam rs)[j]? = some u → w.cell? ((⟨b, o, none⟩ : Addr).add j) = some u := by
    intro j u hj
    have hl := (List.getElem?_eq_some_iff.1 hj).1
    rw [zea] at hl
    have : (⟨b, o, none⟩ : Addr).add j = ⟨b, o + j, none⟩ := by unfold Addr.add; split <;> simp_all
    rw [this, hc j hl]
    exact hj
   have HN := Lib.hid hnews
   clear hc hnews
   go_enter Tryz.func252, Tryz.ntmps252
   go_wp2_with (at_builtin; refine wpList_append_lies _ rfl (.const (.slice none 0 0)) (.tmp 3) 39 rfl w.heap.size 38 i0 (.agg #[.int .i64 0, .int .i64 0, .int .i64 0, .int .i64 0, .int .i64 0, .int .i64 0]) 6 48 Tryz.underlying39 hi hz0 hz1 hz2 rfl (by decide) _ 0 [] rfl (World.ownsRow_nil _ _ _ _) ⟨b, o, none⟩ rs.length cap (zam rs) rfl (zea rs) HN.out (zdg rs) hpos ?c3 ?c4 (Nat.le_refl _) w.heap.size rfl ?c6)
   case c3 => unfold maxLen; omega
   case c4 => omega
   case c6 =>
    intro g cap2 w2 hown hgrow hat hlt
    have hg : g = w.heap.size := by
     rcases hat with h | h
     ·cases h
     ·exact h
    subst hg
    try simp only [Nat.zero_add, List.nil_append] at hown
    have HO := Lib.hid hown
    clear hown hat
    go_wp2
    go_ret
    refine ⟨_, rfl, (Upd.refl _ _).grown hgrow (by intro k hk; cases hk), Reads.of_own HO.out, by simp [blkOf]; exact hlt⟩
def rqAgg (r : Rq) : Value := .agg #[.int .i64 r.client, .int .i64 r.time, .int .i64 r.kind, .int .i64 r.key, .int .i64 r.val, .int .i64 r.sl]
theorem Tryz.guardReq : Tryz.prog.eqGuardType Tryz.prog.depth 38 = false := by kernel_rfl
theorem zfr (r s : Rq) (w : World) : (Op.equalIn 10000 38 (rqAgg r) (rqAgg s)).run Tryz.prog w = .ok (decide (r = s)) w := by
 obtain ⟨a, b, c, d, e, f⟩ := r
 obtain ⟨a', b', c', d', e', f'⟩ := s
 simp [rqAgg, go_sem]
 by_cases h1 : a = a'
 ·by_cases h2 : b = b'
  ·by_cases h3 : c = c'
   ·by_cases h4 : d = d'
    ·by_cases h5 : e = e'
     ·by_cases h6 : f = f' <;> simp [*]
     ·simp [*]
    ·simp [*]
   ·simp [*]
  ·simp [*]
 ·simp [*]
theorem addr_add (b o j : Nat) : (⟨b, o, none⟩ : Addr).add j = ⟨b, o + j, none⟩ := by unfold Addr.add; split <;> simp_all
theorem zbp {w : World} {b o : Nat} {rs : List Rq} (hc : ∀ j, j < rs.length * 6 → w.cell? ⟨b, o + j, none⟩ = (zam rs)[j]?) (k : Nat) (p : Rq) (hp : rs[k]? = some p) :
  w.cell? ⟨b, o + k * 6, none⟩ = some (.int .i64 p.client) ∧ w.cell? ⟨b, o + k * 6 + 1, none⟩ = some (.int .i64 p.time) ∧ w.cell? ⟨b, o + k * 6 + 2, none⟩ = some (.int .i64 p.kind) ∧
  w.cell? ⟨b, o + k * 6 + 3, none⟩ = some (.int .i64 p.key) ∧ w.cell? ⟨b, o + k * 6 + 4, none⟩ = some (.int .i64 p.val) ∧ w.cell? ⟨b, o + k * 6 + 5, none⟩ = some (.int .i64 p.sl) := by
 have hk := (List.getElem?_eq_some_iff.1 hp).1
 obtain ⟨e0, e1, e2, e3, e4, e5⟩ := zko rs k p hp
 refine ⟨?_, ?_, ?_, ?_, ?_, ?_⟩
 ·exact (hc _ (by omega)).trans e0
 ·exact (hc (k * 6 + 1) (by omega)).trans e1
 ·exact (hc (k * 6 + 2) (by omega)).trans e2
 ·exact (hc (k * 6 + 3) (by omega)).trans e3
 ·exact (hc (k * 6 + 4) (by omega)).trans e4
 ·exact (hc (k * 6 + 5) (by omega)).trans e5
theorem zfa {w wr : World} {b o n : Nat} {xs : List Value} {B : Nat} (hb : Below B w wr) (hlt : b < B) (hc : ∀ j, j < n → w.cell? ⟨b, o + j, none⟩ = xs[j]?) : ∀ j, j < n → wr.cell? ⟨b, o + j, none⟩ = xs[j]? :=
 fun j hj => (hb.cell (p := ⟨b, o + j, none⟩) hlt).trans (hc j hj)
structure Vt where
 has : Bool
 sl : Int
 batch : List Rq
abbrev Vs := List (Int × Int)
def zan (l : Vs) : List Value := l.flatMap fun p => [.int .i64 p.1, .int .i64 p.2]
theorem zmq (l : Vs) : ∀ k p, l[k]? = some p → (zan l)[k * 2]? = some (.int .i64 p.1) ∧ (zan l)[k * 2 + 1]? = some (.int .i64 p.2) := by
 induction l with
 | nil => intro k p h; simp at h
 | cons q l ih =>
  intro k p h
  match k with
  | 0 => simp at h; subst h; exact ⟨rfl, rfl⟩
  | k + 1 =>
   have := ih k p (by simpa using h)
   rw [show (k + 1) * 2 = k * 2 + 2 by omega]
   exact this
def Vts (w : World) (v : Value) (l : Vs) : Prop := Reads w v 2 l.length (zan l)
def zdr (w : World) (b : Nat) (vs : List Vt) (D : List Nat) : Prop :=
 ∃ arr, w.heap[b]? = some (.cells arr 371 (0, 0)) ∧ vs.length * 3 ≤ arr.size ∧
  ∀ i t, vs[i]? = some t → ∃ v, arr[i * 3]? = some (.bool t.has) ∧ arr[i * 3 + 1]? = some (.int .i64 t.sl) ∧ arr[i * 3 + 2]? = some v ∧ Bat w v t.batch ∧ ∀ k ∈ blkOf v, k ∈ D
theorem zdr.upd {w w' : World} {M : List Nat} {b : Nat} {vs : List Vt} {D : List Nat} (h : zdr w b vs D) (hu : Upd M w w') (hb : b ∉ M) (hD : ∀ k ∈ D, k ∉ M) : zdr w' b vs D := by
 obtain ⟨arr, h1, h2, h3⟩ := h
 refine ⟨arr, by rw [hu.block b (block_lt h1) hb]; exact h1, h2, fun i t hi => ?_⟩
 obtain ⟨v, a1, a2, a3, a4, a5⟩ := h3 i t hi
 exact ⟨v, a1, a2, a3, a4.upd hu (fun k hk => hD k (a5 k hk)), a5⟩
theorem zdr.cells {w : World} {b : Nat} {vs : List Vt} {D : List Nat} (h : zdr w b vs D) (i : Nat) (t : Vt) (hi : vs[i]? = some t) :
  ∃ v, w.cell? ⟨b, i * 3, none⟩ = some (.bool t.has) ∧ w.cell? ⟨b, i * 3 + 1, none⟩ = some (.int .i64 t.sl) ∧ w.cell? ⟨b, i * 3 + 2, none⟩ = some v ∧ Bat w v t.batch ∧ b < w.heap.size ∧ (∀ k ∈ blkOf v, k ∈ D) ∧ ∀ o, w.frozen? ⟨b, o, none⟩ = false := by
 obtain ⟨arr, h1, h2, h3⟩ := h
 obtain ⟨v, a1, a2, a3, a4, a5⟩ := h3 i t hi
 exact ⟨v, by rw [zac h1]; exact a1, by rw [zac h1]; exact a2, by rw [zac h1]; exact a3, a4, block_lt h1, a5, zab h1⟩
def goodB (batch : List Rq) (t : Vt) : Bool := t.has && decide (t.batch = batch)
def picks (batch : List Rq) : List Vt → Nat → Vs
 | [], _ => []
 | t :: l, k => if goodB batch t then ((k : Int), t.sl) :: picks batch l (k + 1) else picks batch l (k + 1)
theorem zi7 (f : Int) (w : World) (h1 : 1 ≤ f) (h2 : f ≤ 4) : Calls Tryz.prog 150 #[.int .i64 f] w fun e w' => e = .returned (.bool true) ∧ w = w' := by
 go_enter Tryz.func150, Tryz.ntmps150
 go_wp2
 go_ret
 exact ⟨rfl, rfl⟩
theorem zj1 (f : Int) (w : World) (h1 : 1 ≤ f) (h2 : f ≤ 4) : Calls Tryz.prog 213 #[.int .i64 f] w fun e w' => e = .returned (.int .i64 (2 * f + 1)) ∧ w = w' := by
 go_enter Tryz.func213, Tryz.ntmps213
 go_wp2_with fail
 refine (zi7 f _ h1 h2).mono ?_
 rintro e w' ⟨rfl, rfl⟩
 go_wp2_with fail
 go_ret
 exact ⟨rfl, rfl⟩
theorem zav (f : Int) (w : World) (h1 : 1 ≤ f) (h2 : f ≤ 4) : Calls Tryz.prog 80 #[.int .i64 f] w fun e w' => e = .returned (.int .i64 (3 * f + 1)) ∧ w = w' := by
 go_enter Tryz.func80, Tryz.ntmps80
 go_wp2_with fail
 refine (zi7 f _ h1 h2).mono ?_
 rintro e w' ⟨rfl, rfl⟩
 go_wp2_with fail
 go_ret
 exact ⟨rfl, rfl⟩
theorem Tryz.infoVote : (Tryz.prog.info? 177).map (fun i => (i.zero, i.size, i.bytes)) = some (some (.agg #[.int .i64 0, .int .i64 0]), 2, 16) := by kernel_rfl
theorem zeh {w : World} {v : Value} {rs : List Rq} (h : Bat w v rs) : ∃ ao cap, v = .slice ao rs.length cap := let ⟨ao, cap, hv, _⟩ := h; ⟨ao, cap, hv⟩
structure Sl where
 has : Bool
 batch : List Rq
 ps : List Vt
 cs : List Vt
def noVt : Vt := ⟨false, 0, []⟩
structure SlotAt (w : World) (s bp bc cp cq : Nat) (f : Nat) (st : Sl) (D : List Nat) : Prop where
 f1 : 1 ≤ f
 f2 : f ≤ 4
 own : ∃ v, w.heap[s]? = some (.cells #[.int .i64 f, .bool st.has, v, .slice (some ⟨bp, 0, none⟩) (3 * f + 1) cp, .slice (some ⟨bc, 0, none⟩) (3 * f + 1) cq] 307 (0, 0)) ∧ Bat w v st.batch ∧ ∀ k ∈ blkOf v, k ∈ D
 ps : zdr w bp st.ps D
 cs : zdr w bc st.cs D
 pl : st.ps.length = 3 * f + 1
 cl : st.cs.length = 3 * f + 1
 sp : s ≠ bp
 sc : s ≠ bc
 pc : bp ≠ bc
 Ds : s ∉ D
 Dp : bp ∉ D
 Dc : bc ∉ D
 Dw : ∀ k ∈ D, k < w.heap.size
 small : st.batch.length ≤ 100000 ∧ (∀ t ∈ st.ps, t.batch.length ≤ 100000) ∧ ∀ t ∈ st.cs, t.batch.length ≤ 100000
theorem SlotAt.upd {w w' : World} {M : List Nat} {s bp bc cp cq f : Nat} {st : Sl} {D : List Nat} (h : SlotAt w s bp bc cp cq f st D) (hu : Upd M w w') (h1 : s ∉ M) (h2 : bp ∉ M) (h3 : bc ∉ M) (hD : ∀ k ∈ D, k ∉ M) : SlotAt w' s bp bc cp cq f st D := by
 obtain ⟨v, a1, a2, a3⟩ := h.own
 exact { h with
  own := ⟨v, by rw [hu.block s (block_lt a1) h1]; exact a1, a2.upd hu (fun k hk => hD k (a3 k hk)), a3⟩
  ps := h.ps.upd hu h2 hD
  cs := h.cs.upd hu h3 hD
  Dw := fun k hk => Nat.lt_of_lt_of_le (h.Dw k hk) hu.size }
theorem SlotAt.cells {w : World} {s bp bc cp cq f : Nat} {st : Sl} {D : List Nat} (h : SlotAt w s bp bc cp cq f st D) :
  ∃ ao cap, s < w.heap.size ∧ bp < w.heap.size ∧ bc < w.heap.size ∧ w.cell? ⟨s, 0, none⟩ = some (.int .i64 f) ∧ w.cell? ⟨s, 1, none⟩ = some (.bool st.has) ∧ w.cell? ⟨s, 2, none⟩ = some (.slice ao st.batch.length cap) ∧
   w.cell? ⟨s, 3, none⟩ = some (.slice (some ⟨bp, 0, none⟩) (3 * f + 1) cp) ∧ w.cell? ⟨s, 4, none⟩ = some (.slice (some ⟨bc, 0, none⟩) (3 * f + 1) cq) ∧ (∀ o, w.frozen? ⟨s, o, none⟩ = false) ∧
   Bat w (.slice ao st.batch.length cap) st.batch ∧ (∀ k ∈ blkOf (.slice ao st.batch.length cap), k ∈ D) ∧
   w.heap[s]? = some (.cells #[.int .i64 f, .bool st.has, .slice ao st.batch.length cap, .slice (some ⟨bp, 0, none⟩) (3 * f + 1) cp, .slice (some ⟨bc, 0, none⟩) (3 * f + 1) cq] 307 (0, 0)) := by
 obtain ⟨v, a1, a2, a3⟩ := h.own
 obtain ⟨ao, cap, rfl⟩ := zeh a2
 obtain ⟨arr, p1, _, _⟩ := h.ps
 obtain ⟨arr', c1, _, _⟩ := h.cs
 exact ⟨ao, cap, block_lt a1, block_lt p1, block_lt c1, by rw [zac a1]; rfl, by rw [zac a1]; rfl, by rw [zac a1]; rfl, by rw [zac a1]; rfl, by rw [zac a1]; rfl, zab a1, a2, a3, a1⟩
def zv (n : Nat) : Array Value := madeCells #[.bool false, .int .i64 0, .slice none 0 0] (n * 3)
theorem zv_size (n : Nat) : (zv n).size = n * 3 := by simp [zv, size_madeCells]
theorem zpb {w : World} {b n : Nat} {D : List Nat} (h : w.heap[b]? = some (.cells (zv n) 371 (0, 0))) : zdr w b (List.replicate n noVt) D := by
 refine ⟨zv n, h, by rw [zv_size, List.length_replicate]; exact Nat.le_refl _, fun i t hi => ?_⟩
 have hin : i < n := by simpa using (List.getElem?_eq_some_iff.1 hi).1
 rw [List.getElem?_replicate, if_pos hin] at hi
 cases hi
 have key : ∀ j, j < n * 3 → (zv n)[j]? = some ((#[.bool false, .int .i64 0, .slice none 0 0] : Array Value)[j % 3]!) := by
  intro j hj
  simp [zv, madeCells, hj]
 refine ⟨.slice none 0 0, ?_, ?_, ?_, Reads.nil _ _, by simp [blkOf]⟩
 ·rw [key _ (by omega), show i * 3 % 3 = 0 by omega]; rfl
 ·rw [key _ (by omega), show (i * 3 + 1) % 3 = 1 by omega]; rfl
 ·rw [key _ (by omega), show (i * 3 + 2) % 3 = 2 by omega]; rfl
theorem Tryz.infoSv : (Tryz.prog.info? 371).map (fun i => (i.zero, i.size, i.bytes)) = some (some (.agg #[.bool false, .int .i64 0, .slice none 0 0]), 3, 40) := by kernel_rfl
theorem zin (f : Nat) (h2 : f ≤ 4) (wx : World) : (Instr.makeSlice 305 (.int .i64 (3 * (f : Int) + 1)) (.int .i64 (3 * (f : Int) + 1))).run Tryz.prog wx = .ok (.slice (some ⟨wx.heap.size, 0, none⟩) (3 * f + 1) (3 * f + 1)) (wx.alloc (.cells (zv (3 * f + 1)) 371)) := by
 obtain ⟨i0, hi, hz0, hz1, hz2⟩ := info_parts Tryz.infoSv
 have := run_make (P := Tryz.prog) wx 305 371 i0 _ Tryz.underlying305 hi hz0 .i64 .i64 (3 * (f : Int) + 1) (3 * (f : Int) + 1) (by omega) (by omega) (by rw [hz2]; omega) (by omega)
 rw [show (3 * (f : Int) + 1).toNat = 3 * f + 1 by omega, hz1] at this
 exact this
def zq9 (w : World) (s f : Nat) (e : Ending) (w' : World) : Prop :=
 e = .returned (.tuple #[]) ∧ ∃ bp bc, bp ≠ bc ∧ w.heap.size ≤ bp ∧ w.heap.size ≤ bc ∧ Upd [s] w w' ∧
  w'.heap[s]? = some (.cells #[.int .i64 f, .bool false, .slice none 0 0, .slice (some ⟨bp, 0, none⟩) (3 * f + 1) (3 * f + 1), .slice (some ⟨bc, 0, none⟩) (3 * f + 1) (3 * f + 1)] 307 (0, 0)) ∧
  w'.heap[bp]? = some (.cells (zv (3 * f + 1)) 371 (0, 0)) ∧ w'.heap[bc]? = some (.cells (zv (3 * f + 1)) 371 (0, 0))
theorem zpn (s : Nat) (f : Nat) (h1 : 1 ≤ f) (h2 : f ≤ 4) (w : World) (a1 a2 a3 a4 : Value) (hb : w.heap[s]? = some (.cells #[.int .i64 f, a1, a2, a3, a4] 307 (0, 0))) :
  Calls Tryz.prog 214 #[.pointer (some ⟨s, 0, none⟩)] w (zq9 w s f) := by
 have hs : s < w.heap.size := block_lt hb
 have c0 : w.cell? ⟨s, 0, none⟩ = some (.int .i64 f) := by rw [zac hb]; rfl
 have c1 : w.cell? ⟨s, 1, none⟩ = some a1 := by rw [zac hb]; rfl
 have c2 : w.cell? ⟨s, 2, none⟩ = some a2 := by rw [zac hb]; rfl
 have c3 : w.cell? ⟨s, 3, none⟩ = some a3 := by rw [zac hb]; rfl
 have c4 : w.cell? ⟨s, 4, none⟩ = some a4 := by rw [zac hb]; rfl
 have f1 := zab hb 1
 have f2 := zab hb 2
 have f3 := zab hb 3
 have f4 := zab hb 4
 have HB := Lib.hid hb
 clear hb
 have hmk := fun wx => zin f h2 wx
 go_enter Tryz.func214, Tryz.ntmps214
 go_wp2_with fail
 refine (zav f _ (by omega) (by omega)).mono ?_
 rintro e w' ⟨rfl, rfl⟩
 go_wp2_with fail
 go_region
 all_goals go_wp2
 all_goals go_end0
 ·refine ⟨rfl, w.heap.size, w.heap.size + 1, by omega, by omega, by omega, ?_, ?_, ?_, ?_⟩
  ·exact (((((((Upd.refl _ _).setCell (.inl (by simp)) _).setCell (.inl (by simp)) _).setCell (.inl (by simp)) _).setCell (.inl (by simp)) _).alloc _).alloc _).drew
  ·rw [zhi, zm6 (by simp; omega), zm6 (by simp; omega), zd9 rfl, zd9 rfl, zd9 rfl, zd9 rfl, HB.out]; rfl
  ·rw [zhi, zm6 (by simp), zp3 (by simp)]
  ·rw [zhi, zp3 (by simp)]
 ·refine ⟨rfl, w.heap.size + 1, w.heap.size, by omega, by omega, by omega, ?_, ?_, ?_, ?_⟩
  ·exact (((((((Upd.refl _ _).setCell (.inl (by simp)) _).setCell (.inl (by simp)) _).setCell (.inl (by simp)) _).setCell (.inl (by simp)) _).alloc _).alloc _).drew
  ·rw [zhi, zm6 (by simp; omega), zm6 (by simp; omega), zd9 rfl, zd9 rfl, zd9 rfl, zd9 rfl, HB.out]; rfl
  ·rw [zhi, zp3 (by simp)]
  ·rw [zhi, zm6 (by simp), zp3 (by simp)]
def zbx (f : Nat) : Sl := ⟨false, [], List.replicate (3 * f + 1) noVt, List.replicate (3 * f + 1) noVt⟩
theorem zn0 {w : World} {s bp bc f : Nat} (h1 : 1 ≤ f) (h2 : f ≤ 4) (hs : w.heap[s]? = some (.cells #[.int .i64 f, .bool false, .slice none 0 0, .slice (some ⟨bp, 0, none⟩) (3 * f + 1) (3 * f + 1), .slice (some ⟨bc, 0, none⟩) (3 * f + 1) (3 * f + 1)] 307 (0, 0)))
  (hp : w.heap[bp]? = some (.cells (zv (3 * f + 1)) 371 (0, 0))) (hc : w.heap[bc]? = some (.cells (zv (3 * f + 1)) 371 (0, 0))) (e1 : s ≠ bp) (e2 : s ≠ bc) (e3 : bp ≠ bc) : SlotAt w s bp bc (3 * f + 1) (3 * f + 1) f (zbx f) [] where
 f1 := h1
 f2 := h2
 own := ⟨_, hs, Reads.nil _ _, by simp [blkOf]⟩
 ps := zpb hp
 cs := zpb hc
 pl := by simp [zbx]
 cl := by simp [zbx]
 sp := e1
 sc := e2
 pc := e3
 Ds := by simp
 Dp := by simp
 Dc := by simp
 Dw := by simp
 small := by
  refine ⟨by simp [zbx], ?_, ?_⟩
  ·intro t ht; simp [zbx] at ht; simp [ht, noVt]
  ·intro t ht; simp [zbx] at ht; simp [ht, noVt]
theorem zuy (f : Nat) (h1 : 1 ≤ f) (h2 : f ≤ 4) (w : World) :
  Calls Tryz.prog 151 #[.int .i64 f] w fun e w' => ∃ s bp bc, e = .returned (.tuple #[.pointer (some ⟨s, 0, none⟩), .int .i64 0]) ∧ Upd [] w w' ∧ w.heap.size ≤ s ∧ w.heap.size ≤ bp ∧ w.heap.size ≤ bc ∧ SlotAt w' s bp bc (3 * f + 1) (3 * f + 1) f (zbx f) [] := by
 go_enter Tryz.func151, Tryz.ntmps151
 go_wp2_with fail
 refine (zpn w.heap.size f h1 h2 _ _ _ _ _ (heap_alloc_new w _)).mono ?_
 rintro e w1 ⟨rfl, bp, bc, e1, e2, e3, e4, e5, e6, e7⟩
 simp only [za4] at e2 e3
 have E5 := Lib.hid e5
 have E6 := Lib.hid e6
 have E7 := Lib.hid e7
 clear e5 e6 e7
 go_wp2_with fail
 go_ret2
 exact ⟨w.heap.size, bp, bc, rfl, ((Upd.refl _ _).alloc _).then e4 (by intro i hi; simp at hi; omega), Nat.le_refl _, by omega, by omega, zn0 h1 h2 E5.out E6.out E7.out (by omega) (by omega) e1⟩
def zhf (st : Sl) : List Rq := if st.has then st.batch else []
theorem zna {w : World} {s bp bc cp cq f : Nat} {st : Sl} {D : List Nat} (h : SlotAt w s bp bc cp cq f st D) :
  Calls Tryz.prog 215 #[.pointer (some ⟨s, 0, none⟩)] w fun e w' => ∃ u, e = .returned (.tuple #[u, .bool st.has]) ∧ Upd [] w w' ∧ Bat w' u (zhf st) ∧ ∀ k ∈ blkOf u, w.heap.size ≤ k ∧ k < w'.heap.size := by
 have H := Lib.hid h
 obtain ⟨ao, cap, l1, l2, l3, c0, c1, c2, c3, c4, fz, b1, b2, own⟩ := h.cells
 have B1 := Lib.hid b1
 clear b1 own fz b2 h
 unfold zhf
 cases hhas : st.has with
 | false =>
  rw [hhas] at c1
  clear hhas
  go_enter Tryz.func215, Tryz.ntmps215
  go_wp2_with fail
  go_ret2
  exact ⟨_, rfl, Upd.refl _ _, Reads.nil _ _, by simp [blkOf]⟩
 | true =>
  rw [hhas] at c1
  clear hhas
  go_enter Tryz.func215, Tryz.ntmps215
  go_wp2_with fail
  refine (zsm _ st.batch _ H.out.small.1 B1.out).mono ?_
  rintro e w1 ⟨v', rfl, hu, hbat, hnew⟩
  have HBAT := Lib.hid hbat
  have HNEW := Lib.hid hnew
  clear hbat hnew
  go_wp2_with fail
  go_ret2
  exact ⟨_, rfl, hu, HBAT.out, HNEW.out⟩
structure Loc where
 s : Nat
 bp : Nat
 bc : Nat
 cp : Nat
 cq : Nat
 f : Nat
def Loc.M (L : Loc) : List Nat := [L.s, L.bp, L.bc]
abbrev Loc.ptr (L : Loc) : Value := .pointer (some ⟨L.s, 0, none⟩)
def On (w : World) (L : Loc) (st : Sl) (A : List Nat) : Prop :=
 ∃ D, SlotAt w L.s L.bp L.bc L.cp L.cq L.f st D ∧ (∀ k ∈ D, k ∉ A) ∧ ∀ k ∈ A, k < w.heap.size
theorem On.upd {w w' : World} {L : Loc} {st : Sl} {A N : List Nat} (h : On w L st A) (hu : Upd N w w') (hN : ∀ k ∈ N, k ∉ L.M ∧ k ∈ A) : On w' L st A := by
 obtain ⟨D, h1, h2, h3⟩ := h
 have hm : ∀ k, k ∈ L.M → k ∉ N := fun k hk hn => (hN k hn).1 hk
 refine ⟨D, h1.upd hu (hm _ (by simp [Loc.M])) (hm _ (by simp [Loc.M])) (hm _ (by simp [Loc.M])) (fun k hk hn => h2 k hk (hN k hn).2), h2, fun k hk => Nat.lt_of_lt_of_le (h3 k hk) hu.size⟩
theorem On.upd0 {w w' : World} {L : Loc} {st : Sl} {A : List Nat} (h : On w L st A) (hu : Upd [] w w') : On w' L st A := h.upd hu (by simp)
theorem On.below {w w' : World} {L : Loc} {st : Sl} {A : List Nat} (h : On w L st A) (hb : Below w.heap.size w w') : On w' L st A := h.upd0 (Upd.of_below hb)
theorem On.alloc {w : World} {L : Loc} {st : Sl} {A : List Nat} (h : On w L st A) (o : Obj) : On (w.alloc o) L st A := h.upd0 ((Upd.refl _ _).alloc o)
theorem On.lt {w : World} {L : Loc} {st : Sl} {A : List Nat} (h : On w L st A) : ∀ k ∈ L.M, k < w.heap.size := by
 obtain ⟨D, h1, _, _⟩ := h
 obtain ⟨_, _, l1, l2, l3, _⟩ := h1.cells
 intro k hk
 simp [Loc.M] at hk
 rcases hk with rfl | rfl | rfl <;> assumption
theorem On.avoid {w : World} {L : Loc} {st : Sl} {A A' : List Nat} (h : On w L st A) (hs : ∀ k ∈ A', k ∈ A) : On w L st A' := by
 obtain ⟨D, h1, h2, h3⟩ := h
 exact ⟨D, h1, fun k hk hn => h2 k hk (hs k hn), fun k hk => h3 k (hs k hk)⟩
theorem on_new (f : Nat) (h1 : 1 ≤ f) (h2 : f ≤ 4) (w : World) :
  Calls Tryz.prog 151 #[.int .i64 f] w fun e w' => ∃ L : Loc, e = .returned (.tuple #[L.ptr, .int .i64 0]) ∧ L.f = f ∧ Upd [] w w' ∧ (∀ k ∈ L.M, w.heap.size ≤ k) ∧ ∀ A, (∀ k ∈ A, k < w'.heap.size) → On w' L (zbx f) A := by
 refine (zuy f h1 h2 w).mono ?_
 rintro e w' ⟨s, bp, bc, he, hu, g1, g2, g3, h⟩
 refine ⟨⟨s, bp, bc, 3 * f + 1, 3 * f + 1, f⟩, he, rfl, hu, by simp [Loc.M]; omega, fun A hA => ⟨[], h, by simp, hA⟩⟩
theorem zsn {w : World} {L : Loc} {st : Sl} {A : List Nat} (h : On w L st A) :
  Calls Tryz.prog 215 #[L.ptr] w fun e w' => ∃ u, e = .returned (.tuple #[u, .bool st.has]) ∧ Upd [] w w' ∧ On w' L st A ∧ Bat w' u (zhf st) ∧ ∀ k ∈ blkOf u, w.heap.size ≤ k := by
 have h0 := h
 obtain ⟨D, h1, h2, h3⟩ := h
 refine (zna h1).mono ?_
 rintro e w' ⟨u, he, hu, hb, hn⟩
 exact ⟨u, he, hu, h0.upd0 hu, hb, fun k hk => (hn k hk).1⟩
theorem tmod_in (v n : Int) (h : 1 ≤ n) : -n < v.tmod n ∧ v.tmod n < n := by
 have h1 := Int.tmod_lt_of_pos v (show 0 < n by omega)
 have h2 := Int.lt_tmod_of_pos v (show 0 < n by omega)
 exact ⟨h2, h1⟩
theorem zrw (v n : Int) (h : 1 ≤ n) : v % n = if v.tmod n < 0 then v.tmod n + n else v.tmod n := by
 have h1 := Int.mul_tdiv_add_tmod v n
 have h2 := tmod_in v n h
 have h3 : v % n = v.tmod n % n := by
  conv => lhs; rw [← h1]
  rw [Int.mul_add_emod_self_left]
 rw [h3]
 split
 ·rw [← Int.add_emod_right, Int.emod_eq_of_lt (by omega) (by omega)]
 ·rw [Int.emod_eq_of_lt (by omega) (by omega)]
theorem zdn (v n : Int) (w : World) (h0 : 1 ≤ n) (h1 : n ≤ 1000000) :
  Calls Tryz.prog 16 #[.int .i64 v, .int .i64 n] w fun e w' => e = .returned (.int .i64 (v % n)) ∧ w = w' := by
 obtain ⟨b1, b2⟩ := tmod_in v n h0
 have H := Lib.hid (zrw v n h0)
 go_enter Tryz.func16, Tryz.ntmps16
 go_wp2
 all_goals
  go_ret
  refine ⟨zfl ?_, rfl⟩
  have h := H.out
  split at h <;> omega
theorem zhh (v n : Int) (h : 1 ≤ n) : 0 ≤ v % n ∧ v % n < n := ⟨Int.emod_nonneg _ (by omega), Int.emod_lt_of_pos _ (by omega)⟩
theorem zf8 (f : Int) (w : World) (h1 : 1 ≤ f) (h2 : f ≤ 4) : Calls Tryz.prog 17 #[.int .i64 f] w fun e w' => e = .returned (.int .i64 (3 * f + 1)) ∧ w = w' := by
 go_enter Tryz.func17, Tryz.ntmps17
 go_wp2
 go_ret
 exact ⟨rfl, rfl⟩
theorem zmw (f : Int) (w : World) (h1 : 1 ≤ f) (h2 : f ≤ 4) : Calls Tryz.prog 21 #[.int .i64 f] w fun e w' => e = .returned (.int .i64 (2 * f + 1)) ∧ w = w' := by
 go_enter Tryz.func21, Tryz.ntmps21
 go_wp2
 go_ret
 exact ⟨rfl, rfl⟩
theorem zfy {w : World} {b o : Nat} {rs : Vs} (hc : ∀ j, j < rs.length * 2 → w.cell? ⟨b, o + j, none⟩ = (zan rs)[j]?) (k : Nat) (p : Int × Int) (hp : rs[k]? = some p) :
  w.cell? ⟨b, o + k * 2, none⟩ = some (.int .i64 p.1) ∧ w.cell? ⟨b, o + k * 2 + 1, none⟩ = some (.int .i64 p.2) := by
 have hk := (List.getElem?_eq_some_iff.1 hp).1
 obtain ⟨e0, e1⟩ := zmq rs k p hp
 exact ⟨(hc _ (by omega)).trans e0, (hc (k * 2 + 1) (by omega)).trans e1⟩
theorem zdr.dep {w w' : World} {b : Nat} {vs : List Vt} {D : List Nat} (h : zdr w b vs D) (hk : ∀ k, k = b ∨ k ∈ D → w'.heap[k]? = w.heap[k]?) (hs : w.heap.size ≤ w'.heap.size) : zdr w' b vs D := by
 obtain ⟨arr, h1, h2, h3⟩ := h
 refine ⟨arr, by rw [hk b (.inl rfl)]; exact h1, h2, fun i t hi => ?_⟩
 obtain ⟨v, a1, a2, a3, a4, a5⟩ := h3 i t hi
 exact ⟨v, a1, a2, a3, Reads.keep a4 (fun k hkb _ => hk k (.inr (a5 k hkb))) hs, a5⟩
theorem SlotAt.dep {w w' : World} {s bp bc cp cq f : Nat} {st : Sl} {D : List Nat} (h : SlotAt w s bp bc cp cq f st D) (hk : ∀ k, k ∈ [s, bp, bc] ∨ k ∈ D → w'.heap[k]? = w.heap[k]?) (hs : w.heap.size ≤ w'.heap.size) : SlotAt w' s bp bc cp cq f st D := by
 obtain ⟨v, a1, a2, a3⟩ := h.own
 exact { h with
  own := ⟨v, by rw [hk s (by simp)]; exact a1, Reads.keep a2 (fun k hkb _ => hk k (.inr (a3 k hkb))) hs, a3⟩
  ps := h.ps.dep (fun k hkb => hk k (hkb.imp (fun e => by simp [e]) id)) hs
  cs := h.cs.dep (fun k hkb => hk k (hkb.imp (fun e => by simp [e]) id)) hs
  Dw := fun k hkD => Nat.lt_of_lt_of_le (h.Dw k hkD) hs }
def slotR (L : Loc) (st : Sl) : Res where
 M := L.M
 Q := fun w D => SlotAt w L.s L.bp L.bc L.cp L.cq L.f st D
 dep := fun h hk hs => h.dep hk hs
 lt := fun {w D} h k hk => hk.elim (fun hk => On.lt (A := []) ⟨D, h, by simp, by simp⟩ k hk) (fun hk => h.Dw k hk)
 sep := fun h k hk hn => by
  simp [Loc.M] at hk
  rcases hk with rfl | rfl | rfl
  ·exact h.Ds hn
  ·exact h.Dp hn
  ·exact h.Dc hn
def BatIn (w : World) (v : Value) (rs : List Rq) (D : List Nat) : Prop := ReadsIn w v 6 rs.length (zam rs) D
theorem Bat.lies {w : World} {v : Value} {rs : List Rq} (h : Bat w v rs) : BatIn w v rs (blkIf rs.length v) := Reads.lies h
theorem BatIn.bat {w : World} {v : Value} {rs : List Rq} {D : List Nat} (h : BatIn w v rs D) : Bat w v rs := h.1
def batR (v : Value) (rs : List Rq) : Res := imm (fun w D => BatIn w v rs D) (fun h hk hs => ReadsIn.dep h hk hs)
theorem zdq {v : Value} {rs : List Rq} {w : World} {A : List Nat} (h : (batR v rs).At w A) : Bat w v rs := let ⟨_, h, _⟩ := h; h.1.1
section
variable {B : Nat} {w0 W W' : World} {rs : List Res} {L : Loc} {st : Sl}
theorem own_on (h : Own B w0 W (slotR L st :: rs)) : On W L st (Ms (slotR L st :: rs)) := h.head
theorem own_new (f : Nat) (h1 : 1 ≤ f) (h2 : f ≤ 4) (h : Own B w0 W rs) :
  Calls Tryz.prog 151 #[.int .i64 f] W fun e w' => ∃ L : Loc, e = .returned (.tuple #[L.ptr, .int .i64 0]) ∧ L.f = f ∧ Upd [] W w' ∧ Own B w0 w' (slotR L (zbx f) :: rs) := by
 refine (on_new f h1 h2 W).mono ?_
 rintro e w' ⟨L, he, hf, hu, hM, hon⟩
 exact ⟨L, he, hf, hu, h.new (r := slotR L (zbx f)) hu (hon (Ms rs) (fun k hk => Nat.lt_of_lt_of_le (h.lt k hk) hu.size)) hM⟩
theorem ziv (h : Own B w0 W (slotR L st :: rs)) :
  Calls Tryz.prog 215 #[L.ptr] W fun e w' => ∃ u, e = .returned (.tuple #[u, .bool st.has]) ∧ Upd [] W w' ∧ Bat w' u (zhf st) ∧ ∀ k ∈ blkOf u, W.heap.size ≤ k := by
 refine (zsn (own_on h)).mono ?_
 rintro e w' ⟨u, he, hu, _, hb, hn⟩
 exact ⟨u, he, hu, hb, hn⟩
end
end Go.Proofs.YtannckelmojkoaaGreat
namespace Go.Proofs.YtannckelmojkoaaGreat
open Go.ChangeShapes Go.WideShapes Go.ChangeAt Go.RowKit
theorem Tryz.own : ownKnob Tryz.prog.godebug = none := by kernel_rfl
theorem Tryz.laidOut : laidOutB Tryz.prog = true := by kernel_rfl
theorem zfo {H : Type} {enc : TypeId × Value → H} {P : Program} (hl : laidOutB P = true) {W W' : World} (hb : Below W.heap.size W W') :
  ∀ (ts : List TypeId) (vs : List Value) (ds : List (DataW H)) (ps : List MemPlace), (∀ t ∈ ts, P.readableRec t = true ∧ t < P.types.size) → (∀ x ∈ ps, x.block < W.heap.size) →
   DataW.TrodAll enc P W 0 (fun _ => true) true ts vs ds ps → DataW.TrodAll enc P W' 0 (fun b => decide (b < W.heap.size)) true ts vs ds ps
 | [], [], [], _, _, _, h => h
 | t :: ts, v :: vs, d :: ds, ps, hr, hp, ⟨p, q, h1, h2, he⟩ => by
  subst he
  exact ⟨p, q, Below.trod hl (hr t (by simp)).1 (hr t (by simp)).2 h1 hb (fun x hx => hp x (by simp [hx])), zfo hl hb ts vs ds q (fun t ht => hr t (by simp [ht])) (fun x hx => hp x (by simp [hx])) h2, rfl⟩
 | [], [], _ :: _, _, _, _, h => h.elim
 | [], _ :: _, _, _, _, _, h => by cases ‹List (DataW H)› <;> exact h.elim
 | _ :: _, [], _, _, _, _, h => by cases ‹List (DataW H)› <;> exact h.elim
 | _ :: _, _ :: _, [], _, _, _, h => h.elim
theorem law_post {H : Type} {enc : TypeId × Value → H} {P : Program} {f : Func} {s : ChangeSpec} (hl : laidOutB P = true) (hv : s.vars = []) (tb : TypeId) (hres : f.resultTypes = #[tb]) (hu : P.underlying tb = some .bool)
  (hr : ∀ t ∈ f.params.toList, P.readableRec t = true ∧ t < P.types.size) {W W' : World} {args : Array Value} {ds gs : List (DataW H)} {before : List MemPlace} (hW : DataW.Whole enc P f.params.toList s.vars false W args.toList ds gs before)
  (hb : Below W.heap.size W W') (hfn : s.fn H (ds ++ gs) = { results := [.lit (.bool true)], args := ds }) : s.post enc P f false true false false W args (.bool true) W' := by
 have hW0 := hW
 obtain ⟨p, q, hA, hV, he, hz, hn⟩ := hW
 rw [hv] at hV
 obtain ⟨hgs, hq⟩ := trodVars_none hV
 subst hgs; subst hq; subst he
 rw [List.append_nil] at hz hW0
 refine ⟨ds, [], p, [], p, [], hW0, ?_, ?_, ?_, hb.frame _, fun h => by cases h⟩
 ·rw [hfn, hres]
  exact trodAll_cons_mk (shut_bool hu _) trodAll_mk0
 ·rw [hfn]
  exact zfo hl hb _ _ _ _ hr (fun x hx => hW0.lt x hx) hA
 ·rw [hv, hfn]
  rfl
end Go.Proofs.YtannckelmojkoaaGreat
namespace Go.Heap
open Go Go.ChangeShapes Go.WideShapes Go.ChangeAt Go.RowKit Go.Deep
theorem flat_length {α : Type} {cells : α → List Value} {sz : Nat} (hl : ∀ x, (cells x).length = sz) : ∀ xs : List α, (xs.flatMap cells).length = xs.length * sz
 | [] => by simp
 | x :: xs => by rw [List.flatMap_cons, List.length_append, hl, flat_length hl xs, List.length_cons, Nat.succ_mul]; omega
theorem flat_get {α : Type} {cells : α → List Value} {sz : Nat} (hl : ∀ x, (cells x).length = sz) : ∀ (xs : List α) (i r : Nat) (x : α), xs[i]? = some x → r < sz → (xs.flatMap cells)[i * sz + r]? = (cells x)[r]?
 | [], i, r, x, h, _ => by simp at h
 | y :: ys, 0, r, x, h, hr => by
  simp only [List.getElem?_cons_zero, Option.some.injEq] at h
  subst h
  rw [List.flatMap_cons, List.getElem?_append_left (by rw [hl]; omega), Nat.zero_mul, Nat.zero_add]
 | y :: ys, i + 1, r, x, h, hr => by
  rw [List.flatMap_cons, List.getElem?_append_right (by rw [hl, Nat.succ_mul]; omega), hl]
  rw [show (i + 1) * sz + r - sz = i * sz + r by rw [Nat.succ_mul]; omega]
  exact flat_get hl ys i r x (by simpa using h) hr
section
variable {H : Type} {enc : TypeId × Value → H} {W : World} {P : Program} {base : Nat} {spare : Nat → Bool} {held : Bool}
theorem znf {t e : TypeId} {sz fuel : Nat} {v : Value} {x : DataW H × List MemPlace} {α : Type} {cells : α → List Value} {Q : α → Prop} (ht : P.underlying t = some (.slice e)) (hC : P.cellsOf e = sz) (hsz : 0 < sz) (hlen : ∀ a, (cells a).length = sz)
  (hel : ∀ n cs' y, cs'.length = sz → DataW.trod enc P W base spare held n e cs' = some y → ∃ a, cs' = cells a ∧ Q a) (h : DataW.trod enc P W base spare held fuel t [v] = some x) :
  ∃ xs : List α, Reads W v sz xs.length (xs.flatMap cells) ∧ ∀ a ∈ xs, Q a := by
 rcases open_slice ht h with ⟨hcs, _⟩ | ⟨a, len, cap, m, n, D, Pl, hcs, hb, hl, hm, hmm, _, hi⟩
 ·simp only [List.cons.injEq, and_true] at hcs
  subst hcs
  exact ⟨[], Reads.nil _ _, by simp⟩
 ·simp only [List.cons.injEq, and_true] at hcs
  subst hcs
  have hmle : len ≤ m := by rw [hmm]; split <;> omega
  have each : ∀ i, ∃ b : Option α, i < len → ∃ a', b = some a' ∧ Q a' ∧ ∀ j, j < sz → W.cell? ((a.add (i * sz)).add j) = (cells a')[j]? := by
   intro i
   by_cases hil : i < len
   ·obtain ⟨cs', hc, ht'⟩ := hi i (by omega)
    rw [hC] at hc
    obtain ⟨_, hcl, hat⟩ := World.cells?_some hc
    obtain ⟨a', ha, hq⟩ := hel n cs' _ hcl ht'
    subst ha
    exact ⟨some a', fun _ => ⟨a', rfl, hq, hat⟩⟩
   ·exact ⟨none, fun h => absurd h hil⟩
  obtain ⟨F, hF⟩ := Classical.axiomOfChoice each
  by_cases hz : len = 0
  ·subst hz
   exact ⟨[], ⟨some a, cap, rfl, by omega, hm, by simp, (fun e => by cases e), fun h => absurd h (by simp)⟩, by simp⟩
  ·obtain ⟨a0, _⟩ := hF 0 (by omega)
   have : Nonempty α := ⟨a0⟩
   let G : Nat → α := fun i => (F i).getD a0
   have hG : ∀ i, i < len → Q (G i) ∧ ∀ j, j < sz → W.cell? ((a.add (i * sz)).add j) = (cells (G i))[j]? := by
    intro i hil
    obtain ⟨a', e, q1, q2⟩ := hF i hil
    simp only [G, e, Option.getD_some]
    exact ⟨q1, q2⟩
   have hspot : a.spot = none := by
    have h0 := (hG 0 (by omega)).2 0 hsz
    rw [List.getElem?_eq_getElem (by rw [hlen]; exact hsz)] at h0
    have := World.cell?_spot h0
    simpa [Addr.add] using this
   obtain ⟨b, o, spot⟩ := a
   simp only at hspot
   subst hspot
   have hll : ((List.range len).map G).length = len := by simp
   refine ⟨(List.range len).map G, ⟨some ⟨b, o, none⟩, cap, by rw [hll], by rw [hll]; exact hl, hm, by rw [flat_length hlen], (fun e => by cases e), fun _ => ⟨b, o, rfl, ?_, fun j hj => ?_⟩⟩, ?_⟩
   ·have h0 := (hG 0 (by omega)).2 0 hsz
    rw [List.getElem?_eq_getElem (by rw [hlen]; exact hsz), add_plain, add_plain] at h0
    by_cases hbl : b < W.heap.size
    ·exact hbl
    ·have : W.heap[b]? = none := by simp; omega
     simp [World.cell?, this] at h0
   ·rw [hll] at hj
    have hd := Nat.div_add_mod j sz
    have hmod := Nat.mod_lt j hsz
    have hi' : j / sz < len := Nat.div_lt_of_lt_mul (by rw [Nat.mul_comm]; exact hj)
    have h1 := (hG (j / sz) hi').2 (j % sz) hmod
    rw [add_plain, add_plain] at h1
    have hjj : j = j / sz * sz + j % sz := by rw [Nat.mul_comm]; omega
    rw [hjj, ← Nat.add_assoc, h1, flat_get hlen _ (j / sz) (j % sz) (G (j / sz)) (by simp [hi']) hmod]
   ·intro x hx
    simp only [List.mem_map, List.mem_range] at hx
    obtain ⟨i, hil, rfl⟩ := hx
    exact (hG i hil).1
end
end Go.Heap
namespace Go.Proofs.YtannckelmojkoaaGreat
open Go.RowKit Go.Heap
structure Cp where
 view : Int
 inst : Int
 seq : Int
 rs : List Rq
 vs : Vs
deriving DecidableEq
structure Pl where
 sl : Sl
 told : Bool
 has : Bool
 ct : Cp
 done : Bool
 dw : Cp
structure In where
 f : Nat
 num : Int
 ahead : Int
 view : Int
 on : Bool
 l : List Pl
def noCp : Cp := ⟨0, 0, 0, [], []⟩
def zcj (f : Nat) : Pl := ⟨zbx f, false, false, noCp, false, noCp⟩
def newI (f : Nat) (num ahead : Int) : In := ⟨f, num, ahead, 0, true, List.replicate 16 (zcj f)⟩
def In.upd (st : In) (k : Nat) (g : Pl → Pl) : In := { st with l := st.l.modify k g }
def idx (seq : Int) : Option Nat := if 1 ≤ seq ∧ seq ≤ 16 then some (seq.toNat - 1) else none
def plAt (st : In) (seq : Int) : Option Pl := (idx seq).bind fun k => st.l[k]?
def doneI (st : In) : Nat := (st.l.takeWhile (·.done)).length
def zc5 (st : In) (c : Cp) : Bool := match plAt st c.seq with | none => false | some p => !p.done && decide (c.inst = st.num)
def zdk (st : In) (c : Cp) : In :=
 match idx c.seq with
 | none => st
 | some k => if zc5 st c then st.upd k fun p => { p with done := true, dw := c } else st
def zau (st : In) (seq : Int) : Option Cp := match plAt st seq with | none => none | some p => if p.done then some p.dw else none
def zfk (st : In) (seq : Int) : List Rq × Bool := match plAt st seq with | none => ([], false) | some p => (zhf p.sl, p.sl.has)
def zd0 : List Pl → Nat
 | [] => 0
 | p :: l => if 0 < zd0 l then zd0 l + 1 else if p.sl.has then 1 else 0
def nextI (st : In) : Nat := zd0 st.l + 1
theorem zgt : ∀ (l : List Pl) (k : Nat), k ≤ l.length → (∀ j (hj : j < l.length), k ≤ j → l[j].sl.has = false) → (∀ j (hj : j < l.length), k = j + 1 → l[j].sl.has = true) → zd0 l = k
 | [], k, h, _, _ => by simp at h; subst h; rfl
 | p :: l, k, h, h1, h2 => by
  match k with
  | 0 =>
   have e := zgt l 0 (by simp) (fun j hj _ => h1 (j + 1) (by simpa using hj) (by omega)) (fun j _ e => by omega)
   have := h1 0 (by simp) (by omega)
   simp at this
   simp [zd0, e, this]
  | k + 1 =>
   have e := zgt l k (by simpa using h) (fun j hj hk => h1 (j + 1) (by simpa using hj) (by omega)) (fun j hj e => h2 (j + 1) (by simpa using hj) (by omega))
   by_cases hk : k = 0
   ·subst hk
    have := h2 0 (by simp) rfl
    simp at this
    simp [zd0, e, this]
   ·simp [zd0, e]; omega
theorem zr9 {seq : Int} {k : Nat} (h : idx seq = some k) : k < 16 ∧ seq = (k : Int) + 1 := by
 unfold idx at h
 split at h
 ·simp only [Option.some.injEq] at h; omega
 ·cases h
theorem zw6 {seq : Int} (h1 : 1 ≤ seq) (h2 : seq ≤ 16) : idx seq = some (seq.toNat - 1) := by unfold idx; rw [if_pos ⟨h1, h2⟩]
theorem zj8 {seq : Int} (h : idx seq = none) : seq < 1 ∨ 16 < seq := by
 unfold idx at h
 split at h
 ·cases h
 ·omega
structure Ct where
 view : Int
 inst : Int
 seq : Int
 vb : Value
 vv : Value
 rs : List Rq
 vs : Vs
def Ct.cp (c : Ct) : Cp := ⟨c.view, c.inst, c.seq, c.rs, c.vs⟩
def zal (c : Ct) : List Value := [.int .i64 c.view, .int .i64 c.inst, .int .i64 c.seq, c.vb, c.vv]
abbrev ctAgg (c : Ct) : Value := .agg #[.int .i64 c.view, .int .i64 c.inst, .int .i64 c.seq, c.vb, c.vv]
structure Pm where
 lc : Loc
 sl : Sl
 told : Bool
 has : Bool
 ct : Ct
 done : Bool
 dw : Ct
def Pm.pl (p : Pm) : Pl := ⟨p.sl, p.told, p.has, p.ct.cp, p.done, p.dw.cp⟩
def zap (p : Pm) : List Value := [p.lc.ptr, .bool p.told, .bool p.has, .int .i64 p.ct.view, .int .i64 p.ct.inst, .int .i64 p.ct.seq, p.ct.vb, p.ct.vv, .bool p.done, .int .i64 p.dw.view, .int .i64 p.dw.inst, .int .i64 p.dw.seq, p.dw.vb, p.dw.vv]
structure Ins where
 i : Nat
 b : Nat
 cap : Nat
 f : Nat
 num : Int
 ahead : Int
 view : Int
 on : Bool
 l : List Pm
def Ins.st (x : Ins) : In := ⟨x.f, x.num, x.ahead, x.view, x.on, x.l.map Pm.pl⟩
abbrev Ins.ptr (x : Ins) : Value := .pointer (some ⟨x.i, 0, none⟩)
abbrev insO (f : Nat) (num ahead view : Int) (on : Bool) (v : Value) : Obj := .cells #[.int .i64 f, .int .i64 num, .int .i64 ahead, .int .i64 view, .bool on, v] 214 (0, 0)
abbrev Ins.o (x : Ins) : Obj := insO x.f x.num x.ahead x.view x.on (.slice (some ⟨x.b, 0, none⟩) 16 x.cap)
def VtsIn (w : World) (v : Value) (l : Vs) (D : List Nat) : Prop := ReadsIn w v 2 l.length (zan l) D
structure CtIn (w : World) (c : Ct) (D : List Nat) : Prop where
 b : BatIn w c.vb c.rs D
 bn : c.rs.length ≤ 100000
 v : VtsIn w c.vv c.vs D
 vn : c.vs.length ≤ 100000
theorem CtIn.dep {w w' : World} {c : Ct} {D : List Nat} (h : CtIn w c D) (hk : ∀ k ∈ D, w'.heap[k]? = w.heap[k]?) (hs : w.heap.size ≤ w'.heap.size) : CtIn w' c D := ⟨ReadsIn.dep h.b hk hs, h.bn, ReadsIn.dep h.v hk hs, h.vn⟩
theorem CtIn.mono {w : World} {c : Ct} {D D' : List Nat} (h : CtIn w c D) (hs : ∀ k ∈ D, k ∈ D') : CtIn w c D' := ⟨ReadsIn.mono h.b hs, h.bn, ReadsIn.mono h.v hs, h.vn⟩
structure InsOk (x : Ins) : Prop where
 n : x.l.length = 16
 f1 : 1 ≤ x.f
 f2 : x.f ≤ 4
 lf : ∀ p ∈ x.l, p.lc.f = x.f
 c1 : 16 ≤ x.cap
 a1 : 1 ≤ x.ahead
 a2 : x.ahead ≤ 16
 vw : 0 ≤ x.view ∧ x.view ≤ 12
def zg7 (x : Ins) : Res := imm (fun w D => InsOk x ∧ ∀ p ∈ x.l, CtIn w p.ct D ∧ CtIn w p.dw D) (fun h hk hs => ⟨h.1, fun p hp => ⟨(h.2 p hp).1.dep hk hs, (h.2 p hp).2.dep hk hs⟩⟩)
def pmR (p : Pm) : Res := slotR p.lc p.sl
def insHd (x : Ins) : List Res := [blk x.i x.o, segR x.b 241 (x.l.flatMap zap), zg7 x]
def instR (x : Ins) : Res := joinR (insHd x ++ x.l.map pmR)
section
variable {B : Nat} {w0 W W' : World} {ss : List Res} {x : Ins}
abbrev OwnI (B : Nat) (w0 W : World) (x : Ins) (ss : List Res) : Prop := Own B w0 W (insHd x ++ (x.l.map pmR ++ ss))
theorem zec (h : Own B w0 W (instR x :: ss)) : OwnI B w0 W x ss := by
 have := Own.open h
 rwa [List.append_assoc] at this
theorem zef (h : OwnI B w0 W x ss) : Own B w0 W (instR x :: ss) := by
 have h2 : Own B w0 W ((insHd x ++ x.l.map pmR) ++ ss) := by rwa [List.append_assoc]
 exact h2.shut
theorem oi_ok (h : OwnI B w0 W x ss) : InsOk x := by
 obtain ⟨D, ⟨⟨h1, _⟩, _⟩, _, _⟩ := (h.all (zg7 x) (by simp [insHd])).1
 exact h1
theorem own_ok (h : Own B w0 W (instR x :: ss)) : InsOk x := oi_ok (zec h)
theorem zw7 (h : OwnI B w0 W x ss) : W.heap[x.i]? = some x.o := blk_out (h.all (blk x.i x.o) (by simp [insHd])).1
theorem zeg (h : OwnI B w0 W x ss) : W.cell? ⟨x.i, 0, none⟩ = some (.int .i64 x.f) ∧ W.cell? ⟨x.i, 1, none⟩ = some (.int .i64 x.num) ∧ W.cell? ⟨x.i, 2, none⟩ = some (.int .i64 x.ahead) ∧ W.cell? ⟨x.i, 3, none⟩ = some (.int .i64 x.view) ∧
  W.cell? ⟨x.i, 4, none⟩ = some (.bool x.on) ∧ W.cell? ⟨x.i, 5, none⟩ = some (.slice (some ⟨x.b, 0, none⟩) 16 x.cap) ∧ x.i < W.heap.size ∧ x.b < W.heap.size := by
 have hb := zw7 h
 exact ⟨by rw [zac hb]; rfl, by rw [zac hb]; rfl, by rw [zac hb]; rfl, by rw [zac hb]; rfl, by rw [zac hb]; rfl, by rw [zac hb]; rfl, block_lt hb,
  (zcv (h.all (segR x.b 241 (x.l.flatMap zap)) (by simp [insHd])).1).1⟩
theorem flat14 (l : List Pm) (k r : Nat) (hk : k < l.length) (hr : r < 14) : (l.flatMap zap)[k * 14 + r]? = (zap l[k])[r]? ∧ k * 14 + r < (l.flatMap zap).length := by
 have hl : (l.flatMap zap).length = l.length * 14 := flat_length (cells := zap) (sz := 14) (fun _ => rfl) l
 exact ⟨flat_get (cells := zap) (sz := 14) (fun _ => rfl) l k r l[k] (by simp) hr, by rw [hl]; omega⟩
theorem oi_at (h : OwnI B w0 W x ss) (k : Nat) (hk : k < x.l.length) (r : Nat) (hr : r < 14) : W.cell? ⟨x.b, k * 14 + r, none⟩ = (zap x.l[k])[r]? := by
 obtain ⟨-, h2, -⟩ := zcv (h.all (segR x.b 241 (x.l.flatMap zap)) (by simp [insHd])).1
 obtain ⟨e1, e2⟩ := flat14 x.l k r hk hr
 rw [h2 _ e2, e1]
theorem oi_fz (h : OwnI B w0 W x ss) : (∀ o, W.frozen? ⟨x.b, o, none⟩ = false) ∧ ∀ o, W.frozen? ⟨x.i, o, none⟩ = false :=
 ⟨(zcv (h.all (segR x.b 241 (x.l.flatMap zap)) (by simp [insHd])).1).2.2, fun o => zab (zw7 h) o⟩
theorem ztn (h : OwnI B w0 W x ss) (k : Nat) (hk : k < x.l.length) : Own B w0 W (pmR x.l[k] :: (insHd x ++ ((x.l.eraseIdx k).map pmR ++ ss))) := Own.pick h k hk
end
end Go.Proofs.YtannckelmojkoaaGreat
