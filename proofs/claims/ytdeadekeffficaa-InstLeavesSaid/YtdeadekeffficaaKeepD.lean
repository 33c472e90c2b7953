/- psephoskeep.Certs of equal certificates. -/
import Derived.Test.YtdeadekeffficaaKeepC
import Derived.Test.YtdeadekeffficaaInQ
namespace Go.Proofs.Ytdeadekeffficaa
open Go.RowKit Go.Heap

theorem flat_at {α β : Type} (g : α → List β) (n : Nat) (hg : ∀ a, (g a).length = n) : ∀ (l : List α) (k j : Nat) (hk : k < l.length), j < n → (l.flatMap g)[k * n + j]? = (g l[k])[j]?
  | a :: l, 0, j, _, hj => by
    rw [List.flatMap_cons, List.getElem?_append_left (by rw [hg]; omega)]
    simp
  | a :: l, k + 1, j, hk, hj => by
    rw [List.flatMap_cons, List.getElem?_append_right (by rw [hg, Nat.succ_mul]; omega), hg]
    rw [show (k + 1) * n + j - n = k * n + j by rw [Nat.succ_mul]; omega]
    rw [flat_at g n hg l k j (by simpa using hk) hj]
    simp

/-- A slice of certificates, and what they name. -/
def CtsAt (w : World) (u : Value) (cts : List Ct) : Prop :=
  Reads w u 5 cts.length (cts.flatMap ctCells) ∧ ∀ c ∈ cts, Bat w c.vb c.rs ∧ c.rs.length ≤ 100000 ∧ Vts w c.vv c.vs ∧ c.vs.length ≤ 100000

theorem CtsAt.upd {w w' : World} {u : Value} {cts : List Ct} (h : CtsAt w u cts) (hu : Upd [] w w') : CtsAt w' u cts :=
  ⟨h.1.upd (M := []) hu (by simp), fun c hc => ⟨(h.2 c hc).1.upd (M := []) hu (by simp), (h.2 c hc).2.1, (h.2 c hc).2.2.1.upd (M := []) hu (by simp), (h.2 c hc).2.2.2⟩⟩

theorem CtsAt.at {w : World} {ao : Option Addr} {n cap : Nat} {cts : List Ct} (h : CtsAt w (.slice ao n cap) cts) (k : Nat) (hk : k < cts.length) : ∃ b o, ao = some ⟨b, o, none⟩ ∧ b < w.heap.size ∧
    w.cell? ⟨b, o + k * 5, none⟩ = some (.int .i64 cts[k].view) ∧ w.cell? ⟨b, o + k * 5 + 1, none⟩ = some (.int .i64 cts[k].inst) ∧ w.cell? ⟨b, o + k * 5 + 2, none⟩ = some (.int .i64 cts[k].seq) ∧ w.cell? ⟨b, o + k * 5 + 3, none⟩ = some cts[k].vb ∧ w.cell? ⟨b, o + k * 5 + 4, none⟩ = some cts[k].vv := by
  obtain ⟨ao', cap', e, -, -, -, -, h5⟩ := h.1
  cases e
  obtain ⟨b, o, rfl, hb, hc⟩ := h5 (by omega)
  have hj : ∀ j, j < 5 → w.cell? ⟨b, o + k * 5 + j, none⟩ = (ctCells cts[k])[j]? := fun j hj => by
    rw [Nat.add_assoc, hc _ (by omega), flat_at ctCells 5 (fun _ => rfl) cts k j hk hj]
  exact ⟨b, o, rfl, hb, hj 0 (by omega), hj 1 (by omega), hj 2 (by omega), hj 3 (by omega), hj 4 (by omega)⟩

theorem ct_same {c d : Ct} (h : c.cp = d.cp) : d.view = c.view ∧ d.inst = c.inst ∧ d.seq = c.seq ∧ d.rs = c.rs ∧ d.vs = c.vs := by
  simp only [Ct.cp, Cp.mk.injEq] at h
  exact ⟨h.1.symm, h.2.1.symm, h.2.2.1.symm, h.2.2.2.1.symm, h.2.2.2.2.symm⟩

set_option maxHeartbeats 1000000 in
theorem keepCerts_any (u1 u2 : Value) (c1 c2 : List Ct) (w : World) (h1 : CtsAt w u1 c1) (h2 : CtsAt w u2 c2) (he : c1.map Ct.cp = c2.map Ct.cp) (hn : c1.length ≤ 100000) :
    Calls Try.prog 53 #[u1, u2] w fun e w' => e = .returned (.bool true) ∧ Upd [] w w' := by
  obtain ⟨ao, cap, rfl, -⟩ := id h1.1
  obtain ⟨bo, cbp, rfl, -⟩ := id h2.1
  have hl : c1.length = c2.length := by simpa using congrArg List.length he
  have H1 := Lib.hid h1
  have H2 := Lib.hid h2
  have HE := Lib.hid he
  clear h1 h2 he
  have e1 : ((c1.length : Int) != (c2.length : Int)) = false := by simp [hl]
  have HL := Lib.hid hl
  clear hl
  go_enter Try.func53, Try.ntmps53
  go_wp2_with fail
  clear e1
  go_loopw [5] (fun n wr => ∃ k : Nat, k ≤ c1.length ∧ n = .int .i64 k ∧ Hid (Upd [] w wr)) (fun n _ => c1.length - (intOf n).toNat)
  case atStart => exact ⟨0, by omega, rfl, Lib.hid (Upd.refl _ _)⟩
  case round =>
    obtain ⟨k, hk, rfl, HU⟩ := hrel
    by_cases hlt : k < c1.length
    · have hkI : (k : Int) < (c1.length : Int) := by omega
      have hlt2 : k < c2.length := by rw [← HL.out]; exact hlt
      have hkJ : (k : Int) < (c2.length : Int) := by omega
      have hu0 : Upd [] w wr.drew := HU.out.drew
      obtain ⟨b, o, rfl, lb, x0, x1, x2, x3, x4⟩ := (H1.out.upd hu0).at k hlt
      obtain ⟨b', o', rfl, lb', y0, y1, y2, y3, y4⟩ := (H2.out.upd hu0).at k hlt2
      have hc : (c1[k]).cp = (c2[k]).cp := by
        have := congrArg (fun l => l[k]?) HE.out
        simpa [List.getElem?_map, List.getElem?_eq_getElem hlt, List.getElem?_eq_getElem hlt2] using this
      obtain ⟨g1, g2, g3, g4, g5⟩ := ct_same hc
      rw [g1] at y0
      rw [g2] at y1
      rw [g3] at y2
      obtain ⟨m1, m2, m3, m4⟩ := (H1.out.upd hu0).2 _ (List.getElem_mem hlt)
      obtain ⟨n1, -, n3, -⟩ := (H2.out.upd hu0).2 _ (List.getElem_mem hlt2)
      rw [g4] at n1
      rw [g5] at n3
      clear g1 g2 g3 g4 g5 hc
      generalize c1[k].view = view at *
      generalize c1[k].inst = inst at *
      generalize c1[k].seq = seq at *
      generalize c1[k].vb = vb at *
      generalize c1[k].vv = vv at *
      generalize c2[k].vb = ub at *
      generalize c2[k].vv = uv at *
      generalize c1[k].rs = rs at *
      generalize c1[k].vs = vs at *
      obtain ⟨ao1, cap1, rfl⟩ := bat_form m1
      obtain ⟨ao2, cap2, rfl⟩ := vts_form m3
      obtain ⟨ao3, cap3, rfl⟩ := bat_form n1
      obtain ⟨ao4, cap4, rfl⟩ := vts_form n3
      have M1 := Lib.hid m1
      have M3 := Lib.hid m3
      have N1 := Lib.hid n1
      have N3 := Lib.hid n3
      have M2 := Lib.hid m2
      have M4 := Lib.hid m4
      clear m1 m2 m3 m4 n1 n3
      go_wp2_with fail
      go_region_held3 (fun w' => w'.cell? ⟨b, o + k * 5, none⟩ = some (.int .i64 view) ∧ w'.cell? ⟨b, o + k * 5 + 1, none⟩ = some (.int .i64 inst) ∧ w'.cell? ⟨b, o + k * 5 + 2, none⟩ = some (.int .i64 seq) ∧ w'.cell? ⟨b, o + k * 5 + 3, none⟩ = some (.slice ao1 rs.length cap1) ∧ w'.cell? ⟨b, o + k * 5 + 4, none⟩ = some (.slice ao2 vs.length cap2) ∧
          w'.cell? ⟨b', o' + k * 5, none⟩ = some (.int .i64 view) ∧ w'.cell? ⟨b', o' + k * 5 + 1, none⟩ = some (.int .i64 inst) ∧ w'.cell? ⟨b', o' + k * 5 + 2, none⟩ = some (.int .i64 seq) ∧ w'.cell? ⟨b', o' + k * 5 + 3, none⟩ = some (.slice ao3 rs.length cap3) ∧ w'.cell? ⟨b', o' + k * 5 + 4, none⟩ = some (.slice ao4 vs.length cap4))
        (first
          | (with_reducible exact ⟨x0, x1, x2, x3, x4, y0, y1, y2, y3, y4⟩)
          | (with_reducible exact z))
        ((go_at_call 48; refine (keepCert_any view inst seq (.slice ao1 rs.length cap1) (.slice ao2 vs.length cap2) (.slice ao3 rs.length cap3) (.slice ao4 vs.length cap4) rs vs _ M2.out M4.out M1.out M3.out N1.out N3.out).mono ?_; rintro e w2 ⟨rfl, hu2⟩; have hv2 := hu0.trans hu2; have z := And.intro ((hu2.cell (o := o + k * 5) lb (by simp)).trans x0) (And.intro ((hu2.cell (o := o + k * 5 + 1) lb (by simp)).trans x1) (And.intro ((hu2.cell (o := o + k * 5 + 2) lb (by simp)).trans x2) (And.intro ((hu2.cell (o := o + k * 5 + 3) lb (by simp)).trans x3) (And.intro ((hu2.cell (o := o + k * 5 + 4) lb (by simp)).trans x4) (And.intro ((hu2.cell (o := o' + k * 5) lb' (by simp)).trans y0) (And.intro ((hu2.cell (o := o' + k * 5 + 1) lb' (by simp)).trans y1) (And.intro ((hu2.cell (o := o' + k * 5 + 2) lb' (by simp)).trans y2) (And.intro ((hu2.cell (o := o' + k * 5 + 3) lb' (by simp)).trans y3) ((hu2.cell (o := o' + k * 5 + 4) lb' (by simp)).trans y4)))))))))))
      go_wp2_with fail
      go_roundw
      case rel => exact ⟨k + 1, by omega, by go_num, Lib.hid hv2⟩
      case measure => simp [intOf]; omega
    · have hkb : decide ((k : Int) < (c1.length : Int)) = false := by simp; omega
      go_wp2_with fail
      go_ret
      exact ⟨rfl, HU.out⟩

end Go.Proofs.Ytdeadekeffficaa
