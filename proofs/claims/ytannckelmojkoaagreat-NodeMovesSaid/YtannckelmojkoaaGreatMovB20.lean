/- Parts of the proof, one behind the other. -/
import Derived.Test.YtannckelmojkoaaGreatMovB19

/- change: votes for another view. -/
namespace Go.Proofs.YtannckelmojkoaaGreat
open Go.RowKit Go.Heap

/-- A node's vote. -/
structure Vo where
  has : Bool
  view : Int
  sl : Int
def noVo : Vo := ⟨false, 0, 0⟩
def voC (x : Vo) : List Value := [.bool x.has, .int .i64 x.view, .int .i64 x.sl]
abbrev cvO (f : Nat) (g n cap : Nat) : Obj := .cells #[.int .i64 f, .slice (some ⟨g, 0, none⟩) n cap] 247 (0, 0)
abbrev cvR (g : Nat) (l : List Vo) : Res := segR g 320 (l.flatMap voC)
def voAt (l : List Vo) (k : Nat) : Vo := l.getD k noVo
def putB (l : List Vo) (node view : Int) : Bool := decide (0 ≤ node) && (decide (node < l.length) && (decide (0 ≤ view) && (decide (view < 12) && !((voAt l node.toNat).has && decide (view ≤ (voAt l node.toNat).view)))))
def putL (l : List Vo) (node view sl : Int) : List Vo := if putB l node view then l.set node.toNat ⟨true, view, sl⟩ else l
def eGo (view : Int) (q : Nat) : List Vo → Nat → Vs → Vs
  | [], _, acc => acc
  | x :: l, i, acc => eGo view q l (i + 1) (if x.has && (x.view == view) && decide (acc.length < q) then acc ++ [((i : Int), x.sl)] else acc)
/-- The votes of the lowest nodes for a view. -/
def picksV (l : List Vo) (view : Int) (q : Nat) : Vs := eGo view q l 0 []
def dropV (below : Int) (x : Vo) : Vo := if x.has && decide (x.view < below) then noVo else x

section
variable {B : Nat} {w0 w W W' : World} {ss rs : List Res} {vt g cap f : Nat} {l : List Vo}

theorem vo_len (l : List Vo) : (l.flatMap voC).length = l.length * 3 := by
  induction l with
  | nil => rfl
  | cons x l ih => rw [List.flatMap_cons, List.length_append, ih, List.length_cons]; show 3 + _ = _; omega
theorem vo_at {A : List Nat} (h : (cvR g l).At W A) (k : Nat) (hk : k < l.length) : W.cell? ⟨g, k * 3, none⟩ = some (.bool l[k].has) ∧ W.cell? ⟨g, k * 3 + 1, none⟩ = some (.int .i64 l[k].view) ∧ W.cell? ⟨g, k * 3 + 2, none⟩ = some (.int .i64 l[k].sl) ∧
    W.frozen? ⟨g, k * 3, none⟩ = false ∧ W.frozen? ⟨g, k * 3 + 1, none⟩ = false ∧ W.frozen? ⟨g, k * 3 + 2, none⟩ = false := by
  obtain ⟨-, h2, h3⟩ := segR_at h
  have hj : ∀ j, j < 3 → W.cell? ⟨g, k * 3 + j, none⟩ = (voC l[k])[j]? := fun j hj => by
    rw [h2 _ (by rw [vo_len]; omega), flat_get (cells := voC) (sz := 3) (fun _ => rfl) l k j l[k] (by simp) hj]
  exact ⟨hj 0 (by omega), hj 1 (by omega), hj 2 (by omega), h3 _, h3 _, h3 _⟩
theorem own_putVo (h : Own B w0 W (cvR g l :: rs)) (k : Nat) (hk : k < l.length) (x : Vo) : Own B w0 (((W.setCell ⟨g, k * 3, none⟩ (.bool x.has)).setCell ⟨g, k * 3 + 1, none⟩ (.int .i64 x.view)).setCell ⟨g, k * 3 + 2, none⟩ (.int .i64 x.sl)) (cvR g (l.set k x) :: rs) := by
  have h1 := ((h.put (k * 3 + 0) (.bool x.has)).put (k * 3 + 1) (.int .i64 x.view)).put (k * 3 + 2) (.int .i64 x.sl)
  rw [flat_set (cells := voC) (sz := 3) (fun _ => rfl) l k 0 l[k] ⟨x.has, l[k].view, l[k].sl⟩ _ (by simp) (by omega) rfl] at h1
  rw [flat_set (cells := voC) (sz := 3) (fun _ => rfl) (l.set k ⟨x.has, l[k].view, l[k].sl⟩) k 1 ⟨x.has, l[k].view, l[k].sl⟩ ⟨x.has, x.view, l[k].sl⟩ _ (by simp [hk]) (by omega) rfl, List.set_set] at h1
  rw [flat_set (cells := voC) (sz := 3) (fun _ => rfl) (l.set k ⟨x.has, x.view, l[k].sl⟩) k 2 ⟨x.has, x.view, l[k].sl⟩ x _ (by simp [hk]) (by omega) rfl, List.set_set] at h1
  exact h1

abbrev cvL (vt g cap f : Nat) (l : List Vo) (rs : List Res) : List Res := blk vt (cvO f g l.length cap) :: cvR g l :: rs

set_option maxHeartbeats 2000000 in
set_option maxRecDepth 100000 in
theorem vput_any {node view sl : Int} (h : Own B w0 W (cvL vt g cap f l ss)) (hcap : l.length ≤ cap) (hn : l.length ≤ 100) :
    Calls Tryz.prog 167 #[.pointer (some ⟨vt, 0, none⟩), .int .i64 node, .int .i64 view, .int .i64 sl] W fun e w' => e = .returned (.bool (putB l node view)) ∧ Own B w0 w' (cvL vt g cap f (putL l node view sl) ss) := by
  have H := Lib.hid h
  have c1 : W.cell? ⟨vt, 1, none⟩ = some (.slice (some ⟨g, 0, none⟩) l.length cap) := cell_blk h.blk_out 1 rfl
  have HP : Hid (putB l node view = (decide (0 ≤ node) && (decide (node < l.length) && (decide (0 ≤ view) && (decide (view < 12) && !((voAt l node.toNat).has && decide (view ≤ (voAt l node.toNat).view))))))) := Lib.hid rfl
  have HL : Hid (putL l node view sl = if putB l node view then l.set node.toNat ⟨true, view, sl⟩ else l) := Lib.hid rfl
  generalize putL l node view sl = l' at *
  generalize putB l node view = r at *
  clear h
  by_cases p0 : node < 0
  · have hr : r = false := by rw [HP.out, decide_eq_false (by omega)]; rfl
    subst hr
    have hl' : l' = l := HL.out
    subst hl'
    clear HL HP
    go_enter Tryz.func167, Tryz.ntmps167
    go_wp2_with fail
    go_ret
    exact ⟨rfl, H.out⟩
  have d0 : decide (node < 0) = false := by simp; omega
  obtain ⟨k, rfl⟩ : ∃ k : Nat, node = k := ⟨node.toNat, by omega⟩
  by_cases p1 : l.length ≤ k
  · have hr : r = false := by rw [HP.out, decide_eq_false (show ¬ (k : Int) < (l.length : Int) by omega), Bool.false_and, Bool.and_false]
    subst hr
    have hl' : l' = l := HL.out
    subst hl'
    have d1 : (l'.length : Int) ≤ (k : Int) := by omega
    clear HL HP
    go_enter Tryz.func167, Tryz.ntmps167
    go_wp2_with fail
    go_ret
    exact ⟨rfl, H.out⟩
  have hk : k < l.length := by omega
  have d1 : decide ((l.length : Int) ≤ (k : Int)) = false := by simp; omega
  have d1N : decide (l.length ≤ k) = false := by simp; omega
  have hk0 : (0 : Int) ≤ (k : Int) := by omega
  have hkI : (k : Int) < (l.length : Int) := by omega
  have hcI : (l.length : Int) ≤ (cap : Int) := by omega
  rw [decide_eq_true hk0, decide_eq_true hkI, Bool.true_and, Bool.true_and, Int.toNat_natCast, show voAt l k = l[k] by unfold voAt; simp [List.getD, hk]] at HP
  rw [Int.toNat_natCast] at HL
  by_cases p2 : view < 0
  · have hr : r = false := by rw [HP.out, decide_eq_false (by omega)]; rfl
    subst hr
    have hl' : l' = l := HL.out
    subst hl'
    clear HL HP
    go_enter Tryz.func167, Tryz.ntmps167
    go_wp2_with fail
    go_ret
    exact ⟨rfl, H.out⟩
  have d2 : decide (view < 0) = false := by simp; omega
  by_cases p3 : 12 ≤ view
  · have hr : r = false := by rw [HP.out, decide_eq_false (show ¬ view < 12 by omega), Bool.false_and, Bool.and_false]
    subst hr
    have hl' : l' = l := HL.out
    subst hl'
    clear HL HP p2
    go_enter Tryz.func167, Tryz.ntmps167
    go_wp2_with fail
    go_ret
    exact ⟨rfl, H.out⟩
  have d3 : decide (12 ≤ view) = false := by simp; omega
  rw [decide_eq_true (show 0 ≤ view by omega), decide_eq_true (show view < 12 by omega), Bool.true_and, Bool.true_and] at HP
  obtain ⟨q0, q1, q2, z0, z1, z2⟩ := vo_at H.out.drop.head k hk
  have HS := Lib.hid ((own_putVo H.out.swap k hk ⟨true, view, sl⟩).swap)
  generalize l[k] = x at *
  obtain ⟨has, xv, xs⟩ := x
  simp only at q0 q1 q2 HP
  cases has with
  | true =>
    by_cases p4 : view ≤ xv
    · have hr : r = false := by rw [HP.out, decide_eq_true p4]; rfl
      subst hr
      have hl' : l' = l := HL.out
      subst hl'
      clear HL HP p2 p3
      go_enter Tryz.func167, Tryz.ntmps167
      go_wp2_with fail
      go_ret
      exact ⟨rfl, H.out⟩
    · have d4 : decide (view ≤ xv) = false := by simp; omega
      have hr : r = true := by rw [HP.out, d4]; rfl
      subst hr
      have hl' : l' = l.set k ⟨true, view, sl⟩ := HL.out
      subst hl'
      have HE : Hid (Own B w0 _ (cvL vt g cap f (l.set k ⟨true, view, sl⟩) ss)) := Lib.hid (by rw [cvL, List.length_set]; exact HS.out)
      clear HL HP p2 p3 HS
      go_enter Tryz.func167, Tryz.ntmps167
      go_wp2_with fail
      go_ret
      exact ⟨rfl, HE.out⟩
  | false =>
    have hr : r = true := by rw [HP.out]; rfl
    subst hr
    have hl' : l' = l.set k ⟨true, view, sl⟩ := HL.out
    subst hl'
    have HE : Hid (Own B w0 _ (cvL vt g cap f (l.set k ⟨true, view, sl⟩) ss)) := Lib.hid (by rw [cvL, List.length_set]; exact HS.out)
    clear HL HP p2 p3 HS
    go_enter Tryz.func167, Tryz.ntmps167
    go_wp2_with fail
    go_ret
    exact ⟨rfl, HE.out⟩


theorem eGo_step (view : Int) (q : Nat) (l : List Vo) (k : Nat) (hk : k < l.length) (acc : Vs) : eGo view q (l.drop k) k acc = eGo view q (l.drop (k + 1)) (k + 1) (if l[k].has && (l[k].view == view) && decide (acc.length < q) then acc ++ [((k : Int), l[k].sl)] else acc) := by
  rw [← List.getElem_cons_drop hk]; rfl
theorem eGo_len (view : Int) (q : Nat) : ∀ (l : List Vo) (i : Nat) (acc : Vs), acc.length ≤ q → (eGo view q l i acc).length ≤ q
  | [], _, _, h => h
  | x :: l, i, acc, h => by
    unfold eGo
    refine eGo_len view q l (i + 1) _ ?_
    split
    · rename_i hc
      simp only [Bool.and_eq_true, decide_eq_true_eq] at hc
      simp; omega
    · exact h

set_option maxHeartbeats 4000000 in
set_option maxRecDepth 100000 in
theorem venough_any {view : Int} (h : Own B w0 W (cvL vt g cap f l ss)) (hcap : l.length ≤ cap) (hn : l.length ≤ 100) (hf1 : 1 ≤ f) (hf2 : f ≤ 4) :
    Calls Tryz.prog 168 #[.pointer (some ⟨vt, 0, none⟩), .int .i64 view] W fun e w' => ∃ v', e = .returned (.tuple #[v', .bool (decide ((picksV l view (2 * f + 1)).length = 2 * f + 1))]) ∧
      Own B w0 w' (ownR 177 2 v' (if (picksV l view (2 * f + 1)).length = 2 * f + 1 then picksV l view (2 * f + 1) else []).length (vsCells (if (picksV l view (2 * f + 1)).length = 2 * f + 1 then picksV l view (2 * f + 1) else [])) :: cvL vt g cap f l ss) := by
  obtain ⟨i0, hi, hz0, hz1, hz2⟩ := info_parts Tryz.infoVote
  have c1 : W.cell? ⟨vt, 1, none⟩ = some (.slice (some ⟨g, 0, none⟩) l.length cap) := cell_blk h.blk_out 1 rfl
  have H0 := Lib.hid (h.row0 (E := 177) (sz := 2))
  obtain ⟨res, HR⟩ : ∃ res, Hid (eGo view (2 * f + 1) l 0 [] = res) := ⟨_, Lib.hid rfl⟩
  have hlen : res.length ≤ 2 * f + 1 := by rw [← HR.out]; exact eGo_len _ _ _ _ _ (by simp)
  rw [show picksV l view (2 * f + 1) = res from HR.out]
  obtain ⟨fin, HF⟩ : ∃ fin : Vs, Hid ((if res.length = 2 * f + 1 then res else []) = fin) := ⟨_, Lib.hid rfl⟩
  rw [HF.out]
  have HQ := Lib.hid (fun w => quorum_any (f : Int) w (by omega) (by omega))
  clear h
  go_enter Tryz.func168, Tryz.ntmps168
  go_wp2_with fail
  go_loopw [6, 14] (fun out i wr => ∃ (k : Nat) (A : Vs) (ao : Option Addr) (ac : Nat), k ≤ l.length ∧ A.length ≤ k ∧ i = .int .i64 k ∧ out = .slice ao A.length ac ∧ Hid (eGo view (2 * f + 1) (l.drop k) k A = res) ∧ Hid (Own B w0 wr (ownR 177 2 (.slice ao A.length ac) A.length (vsCells A) :: cvL vt g cap f l ss))) (fun _ i _ => l.length - (intOf i).toNat)
  case atStart => exact ⟨0, [], none, 0, by omega, by simp, rfl, rfl, Lib.hid (by simpa using HR.out), H0⟩
  case round =>
    clear H0 c1 HR
    obtain ⟨k, A, ao, ac, hk, hAk, rfl, rfl, HE, HO⟩ := hrel
    have c0 : wr.cell? ⟨vt, 0, none⟩ = some (.int .i64 f) := cell_blk (HO.out.blkAt 1 rfl) 0 rfl
    by_cases hlt : k < l.length
    · have hkI : (k : Int) < (l.length : Int) := by omega
      have hk0 : (0 : Int) ≤ (k : Int) := by omega
      have hcI : (l.length : Int) ≤ (cap : Int) := by omega
      obtain ⟨q0, q1, q2, -, -, -⟩ := vo_at (HO.out.get 2 rfl) k hlt
      have HX := Lib.hid ((eGo_step view (2 * f + 1) l k hlt A).symm.trans HE.out)
      have hAl : A.length ≤ 100 := by omega
      clear HE
      generalize l[k] = x at *
      obtain ⟨has, xv, xs⟩ := x
      simp only at q0 q1 q2 HX
      have HO2 := Lib.hid (HO.out.alloc (.cells #[.bool has, .int .i64 xv, .int .i64 xs] 320 (0, 0)))
      have c0' := cell_upd ((Upd.refl [] wr).alloc (.cells #[.bool has, .int .i64 xv, .int .i64 xs] 320 (0, 0))) c0
      cases has with
      | false =>
        simp only [Bool.false_and, Bool.false_eq_true, if_false] at HX
        go_wp2_with fail
        go_roundw
        case rel => exact ⟨k + 1, A, ao, ac, by omega, by omega, by go_num, rfl, Lib.hid (HX.out), HO2⟩
        case measure => simp [intOf]; omega
      | true =>
        simp only [Bool.true_and] at HX
        by_cases hv : xv = view
        · have hve : (xv == view) = true := by simp [hv]
          rw [hve] at HX
          simp only [Bool.true_and, decide_eq_true_eq] at HX
          clear hv
          by_cases hq : A.length < 2 * f + 1
          · have hqI : (A.length : Int) < 2 * (f : Int) + 1 := by omega
            rw [if_pos hq] at HX
            go_wp2_with fail
            refine (HQ.out _).mono ?_
            rintro e w1 ⟨rfl, rfl⟩
            have HO3 := Lib.hid (HO2.out.alloc (.cells #[.int .i64 k, .int .i64 xs] 177 (0, 0)))
            have HN : Hid (((wr.alloc (.cells #[.bool true, .int .i64 xv, .int .i64 xs] 320 (0, 0))).alloc (.cells #[.int .i64 k, .int .i64 xs] 177 (0, 0))).heap[wr.heap.size + 1]? = some (.cells #[.int .i64 k, .int .i64 xs] 177 (0, 0))) := Lib.hid (by have h9 := heap_alloc_new (wr.alloc (.cells #[.bool true, .int .i64 xv, .int .i64 xs] 320 (0, 0))) (.cells #[.int .i64 k, .int .i64 xs] 177 (0, 0)); rw [hs_alloc] at h9; exact h9)
            go_wp2_with (at_builtin; refine wpList_push rfl (.tmp 37) (.tmp 42) 40 rfl 177 i0 (.agg #[.int .i64 0, .int .i64 0]) 2 16 Tryz.underlying40 hi hz0 hz1 hz2 rfl (by decide) HO3.out 0 (.slice ao A.length ac) A.length (vsCells A) rfl rfl (wr.heap.size + 1) #[.int .i64 k, .int .i64 xs] 177 (0, 0) rfl HN.out rfl (by simp [Value.oneCell']) (by unfold maxLen; omega) (by omega) ?_)
            intro g2 cap2 w2 h2
            have H2 : Hid (Own B w0 w2 (ownR 177 2 (.slice (some ⟨g2, 0, none⟩) (A ++ [((k : Int), xs)]).length cap2) (A ++ [((k : Int), xs)]).length (vsCells (A ++ [((k : Int), xs)])) :: cvL vt g cap f l ss)) := Lib.hid (by simpa [vsCells] using h2)
            clear h2 HO3 HO2 HO HN
            go_wp2_with fail
            go_roundw
            case rel => exact ⟨k + 1, A ++ [((k : Int), xs)], some ⟨g2, 0, none⟩, cap2, by omega, by simp; omega, by go_num, by simp, HX, H2⟩
            case measure => simp [intOf]; omega
          · have hqI : decide ((A.length : Int) < 2 * (f : Int) + 1) = false := by simp; omega
            rw [if_neg hq] at HX
            go_wp2_with fail
            refine (HQ.out _).mono ?_
            rintro e w1 ⟨rfl, rfl⟩
            go_wp2_with fail
            go_roundw
            case rel => exact ⟨k + 1, A, ao, ac, by omega, by omega, by go_num, rfl, Lib.hid (HX.out), HO2⟩
            case measure => simp [intOf]; omega
        · have hve : (xv == view) = false := by simp [hv]
          rw [hve] at HX
          simp only [Bool.false_and, Bool.false_eq_true, if_false] at HX
          clear hv
          go_wp2_with fail
          go_roundw
          case rel => exact ⟨k + 1, A, ao, ac, by omega, by omega, by go_num, rfl, Lib.hid (HX.out), HO2⟩
          case measure => simp [intOf]; omega
    · have hkI : decide ((k : Int) < (l.length : Int)) = false := by simp; omega
      have e : A = res := by
        have := HE.out
        rw [List.drop_eq_nil_of_le (by omega)] at this
        exact this
      subst e
      by_cases hq : A.length = 2 * f + 1
      · have hqI : decide ((A.length : Int) < 2 * (f : Int) + 1) = false := by simp; omega
        have hf : fin = A := by rw [← HF.out, if_pos hq]
        subst hf
        have HD : Hid (decide (fin.length = 2 * f + 1) = true) := Lib.hid (by simp [hq])
        clear hq HF
        go_wp2_with fail
        refine (HQ.out _).mono ?_
        rintro e w1 ⟨rfl, rfl⟩
        go_wp2_with fail
        go_ret2
        rw [HD.out]
        exact ⟨_, rfl, HO.out⟩
      · have hqI : (A.length : Int) < 2 * (f : Int) + 1 := by omega
        have hf : fin = [] := by rw [← HF.out, if_neg hq]
        subst hf
        have HD : Hid (decide (A.length = 2 * f + 1) = false) := Lib.hid (by simp [hq])
        have HO9 := Lib.hid (HO.out.drop.row0 (E := 177) (sz := 2))
        clear hq HF
        go_wp2_with fail
        refine (HQ.out _).mono ?_
        rintro e w1 ⟨rfl, rfl⟩
        go_wp2_with fail
        go_ret2
        rw [HD.out]
        exact ⟨_, rfl, HO9.out⟩

end
end Go.Proofs.YtannckelmojkoaaGreat

/- change: votes for views below one are there no more; a clone. -/
namespace Go.Proofs.YtannckelmojkoaaGreat
open Go.RowKit Go.Heap

section
variable {B : Nat} {w0 w W W' : World} {ss rs : List Res} {vt g cap f : Nat} {l : List Vo}

/-- The first k are done. -/
def dropTo (below : Int) (l : List Vo) (k : Nat) : List Vo := (l.take k).map (dropV below) ++ l.drop k
theorem dropTo_len (below : Int) (l : List Vo) (k : Nat) : (dropTo below l k).length = l.length := by simp [dropTo]; omega
theorem dropTo_at (below : Int) (l : List Vo) (k : Nat) (hk : k < l.length) : (dropTo below l k)[k]'(by rw [dropTo_len]; exact hk) = l[k] := by
  unfold dropTo
  rw [List.getElem_append_right (by simp; omega)]
  simp [Nat.min_eq_left (Nat.le_of_lt hk)]
theorem dropTo_step (below : Int) (l : List Vo) (k : Nat) (hk : k < l.length) : dropTo below l (k + 1) = (dropTo below l k).set k (dropV below l[k]) := by
  refine List.ext_getElem (by simp [dropTo_len]) (fun j h1 h2 => ?_)
  rw [dropTo_len] at h1
  have e : ∀ k j (h : j < l.length), (dropTo below l k)[j]'(by rw [dropTo_len]; exact h) = if j < k then dropV below l[j] else l[j] := by
    intro k j h
    unfold dropTo
    by_cases hjk : j < k
    · rw [if_pos hjk, List.getElem_append_left (by simp; omega)]; simp
    · rw [if_neg hjk, List.getElem_append_right (by simp; omega)]
      simp only [List.length_map, List.length_take, List.getElem_drop]
      congr 1; omega
  rw [e (k + 1) j h1, List.getElem_set]
  by_cases hkj : k = j
  · subst hkj; simp
  · rw [if_neg hkj, e k j h1]
    by_cases hjk : j < k
    · rw [if_pos hjk, if_pos (by omega)]
    · rw [if_neg hjk, if_neg (by omega)]

set_option maxHeartbeats 4000000 in
set_option maxRecDepth 100000 in
theorem vdrop_any {below : Int} (h : Own B w0 W (cvL vt g cap f l ss)) (hcap : l.length ≤ cap) (hn : l.length ≤ 100) :
    Calls Tryz.prog 226 #[.pointer (some ⟨vt, 0, none⟩), .int .i64 below] W fun e w' => ∃ n : Int, e = .returned (.int .i64 n) ∧ Own B w0 w' (cvL vt g cap f (l.map (dropV below)) ss) := by
  have c1 : W.cell? ⟨vt, 1, none⟩ = some (.slice (some ⟨g, 0, none⟩) l.length cap) := cell_blk h.blk_out 1 rfl
  have H0 : Hid (Own B w0 W (cvL vt g cap f (dropTo below l 0) ss)) := Lib.hid (by simpa [dropTo] using h)
  clear h
  go_enter Tryz.func226, Tryz.ntmps226
  go_wp2_with fail
  go_loopw [5, 13] (fun nv i wr => ∃ (k n : Nat), k ≤ l.length ∧ n ≤ k ∧ i = .int .i64 k ∧ nv = .int .i64 n ∧ Hid (Own B w0 wr (cvL vt g cap f (dropTo below l k) ss))) (fun _ i _ => l.length - (intOf i).toNat)
  case atStart => exact ⟨0, 0, by omega, by omega, rfl, rfl, H0⟩
  case round =>
    clear H0 c1
    obtain ⟨k, n, hk, hnk, rfl, rfl, HO⟩ := hrel
    by_cases hlt : k < l.length
    · have hkI : (k : Int) < (l.length : Int) := by omega
      have hk0 : (0 : Int) ≤ (k : Int) := by omega
      have hcI : (l.length : Int) ≤ (cap : Int) := by omega
      have c1 : wr.cell? ⟨vt, 1, none⟩ = some (.slice (some ⟨g, 0, none⟩) l.length cap) := by have := cell_blk (HO.out.blkAt 0 rfl) 1 rfl; rw [dropTo_len] at this; exact this
      obtain ⟨q0, q1, q2, -, -, -⟩ := vo_at (HO.out.get 1 rfl) k (by rw [dropTo_len]; exact hlt)
      rw [dropTo_at below l k hlt] at q0 q1 q2
      have HS := Lib.hid (dropTo_step below l k hlt)
      have HO2 := Lib.hid (HO.out.alloc (.cells #[.bool l[k].has, .int .i64 l[k].view, .int .i64 l[k].sl] 320 (0, 0)))
      have HD : Hid (dropV below l[k] = if l[k].has && decide (l[k].view < below) then noVo else l[k]) := Lib.hid rfl
      have hself : Hid ((dropTo below l k).set k l[k] = dropTo below l k) := Lib.hid (by
        have := dropTo_at below l k hlt
        rw [← this]; simp)
      obtain ⟨r0, r1, r2, z0, z1, z2⟩ := vo_at (HO2.out.get 1 rfl) k (by rw [dropTo_len]; exact hlt)
      rw [dropTo_at below l k hlt] at r0 r1 r2
      have c1' : (wr.alloc (.cells #[.bool l[k].has, .int .i64 l[k].view, .int .i64 l[k].sl] 320 (0, 0))).cell? ⟨vt, 1, none⟩ = some (.slice (some ⟨g, 0, none⟩) l.length cap) := cell_allocd c1
      have HP := Lib.hid ((own_putVo HO2.out.swap k (by rw [dropTo_len]; exact hlt) noVo).swap)
      clear HO
      generalize l[k] = x at *
      obtain ⟨has, xv, xs⟩ := x
      simp only at q0 q1 q2 r0 r1 r2 HD HO2 HP c1' z0 z1 z2
      cases has with
      | false =>
        simp only [Bool.false_and, Bool.false_eq_true, if_false] at HD
        have H3 : Hid (Own B w0 _ (cvL vt g cap f (dropTo below l (k + 1)) ss)) := Lib.hid (by rw [HS.out, HD.out, hself.out]; exact HO2.out)
        clear HO2 HP
        go_wp2_with fail
        go_roundw
        case rel => exact ⟨k + 1, n, by omega, by omega, by go_num, rfl, H3⟩
        case measure => simp [intOf]; omega
      | true =>
        simp only [Bool.true_and, decide_eq_true_eq] at HD
        by_cases hv : xv < below
        · rw [if_pos hv] at HD
          have H3 : Hid (Own B w0 _ (cvL vt g cap f (dropTo below l (k + 1)) ss)) := Lib.hid (by rw [HS.out, HD.out, cvL, List.length_set]; exact HP.out)
          have hn9 : (n : Int) ≤ 100 := by omega
          clear HO2 HP
          go_wp2_with fail
          go_roundw
          case rel => exact ⟨k + 1, n + 1, by omega, by omega, by go_num, by go_num, H3⟩
          case measure => simp [intOf]; omega
        · have hvd : decide (xv < below) = false := by simp; omega
          rw [if_neg hv] at HD
          have H3 : Hid (Own B w0 _ (cvL vt g cap f (dropTo below l (k + 1)) ss)) := Lib.hid (by rw [HS.out, HD.out, hself.out]; exact HO2.out)
          clear HO2 HP hv
          go_wp2_with fail
          go_roundw
          case rel => exact ⟨k + 1, n, by omega, by omega, by go_num, rfl, H3⟩
          case measure => simp [intOf]; omega
    · have hkI : decide ((k : Int) < (l.length : Int)) = false := by simp; omega
      have e : dropTo below l k = l.map (dropV below) := by
        unfold dropTo
        rw [List.take_of_length_le (by omega), List.drop_eq_nil_of_le (by omega), List.append_nil]
      rw [e] at HO
      go_wp2_with fail
      go_ret
      exact ⟨_, rfl, HO.out⟩

end
end Go.Proofs.YtannckelmojkoaaGreat

/- psephosref01: numbers as bytes; what its pen writes. -/
namespace Go.Proofs.YtannckelmojkoaaGreat
open Go.RowKit Go.Heap

abbrev pnL (p : Nat) (v : Value) (s : Wr) (l : List Res) : List Res := blk p (.cells #[v, .bool s.bad] 205 (0, 0)) :: bysR v s.out :: l
def pSgn (s : Wr) (n : Int) : Wr := wNum ⟨s.out, s.bad || !sgnOk n⟩ (zigX n)
def pLst (s : Wr) (n : Int) : Wr := wNum ⟨s.out, s.bad || decide (256 < n)⟩ n
def pReq (s : Wr) (r : Rq) : Wr := wNum (pSgn (pSgn (wNum (wNum (wNum s r.client) r.time) r.kind) r.key) r.val) r.sl

section
variable {B : Nat} {w0 w W W' : World} {ss rs : List Res} {p : Nat} {v bv : Value} {s : Wr}

set_option maxHeartbeats 2000000 in
theorem rnum_any (n : Int) (h : Own B w0 W ss) : Calls Tryz.prog 129 #[.int .i64 n] W fun e w' => ∃ v, e = .returned (.tuple #[v, .bool (numOk n)]) ∧ Own B w0 w' (bysR v (numX n) :: ss) := by
  obtain ⟨i0, hi, hz0, hz1, hz2⟩ := info_parts Tryz.infoU8
  by_cases h1 : n < 0
  · have HE : Hid (numOk n = false ∧ Own B w0 W (bysR (.slice none 0 0) (numX n) :: ss)) := Lib.hid (by
      have e : numOk n = false := by unfold numOk; simp; omega
      refine ⟨e, ?_⟩
      unfold numX
      rw [e]
      exact h.row0)
    clear h
    go_enter Tryz.func129, Tryz.ntmps129
    go_wp2_with fail
    go_ret2
    rw [HE.out.1]
    exact ⟨_, rfl, HE.out.2⟩
  by_cases h2 : 1099511627776 ≤ n
  · have h1' : decide (n < 0) = false := by simp; omega
    have HE : Hid (numOk n = false ∧ Own B w0 W (bysR (.slice none 0 0) (numX n) :: ss)) := Lib.hid (by
      have e : numOk n = false := by unfold numOk; simp; omega
      refine ⟨e, ?_⟩
      unfold numX
      rw [e]
      exact h.row0)
    clear h h1
    go_enter Tryz.func129, Tryz.ntmps129
    go_wp2_with fail
    go_ret2
    rw [HE.out.1]
    exact ⟨_, rfl, HE.out.2⟩
  have h1' : decide (n < 0) = false := by simp; omega
  have h2' : decide (1099511627776 ≤ n) = false := by simp; omega
  obtain ⟨m0, rfl⟩ : ∃ m : Nat, n = m := ⟨n.toNat, by omega⟩
  have hm0 : m0 < 128 ^ (5 + 1) := by omega
  have HE : Hid (numOk (m0 : Int) = true ∧ numX (m0 : Int) = encN 5 m0) := Lib.hid (by
    have e : numOk (m0 : Int) = true := by unfold numOk; simp; omega
    unfold numX
    rw [e]
    exact ⟨rfl, by simp [numB]⟩)
  have H := Lib.hid (h.row0 (E := 5) (sz := 1))
  clear h h1 h2
  go_enter Tryz.func129, Tryz.ntmps129
  go_wp2_with fail
  go_loopw [0, 4] (fun nv v wr => ∃ (m f : Nat) (acc : Bys), nv = .int .i64 m ∧ m < 128 ^ (f + 1) ∧ f ≤ 5 ∧ acc.length ≤ 10 - f ∧ acc ++ encN f m = encN 5 m0 ∧ Hid (Own B w0 wr (bysR v acc :: ss))) (fun nv _ _ => (intOf nv).toNat)
  case atStart => exact ⟨m0, 5, [], rfl, hm0, by omega, by simp, rfl, H⟩
  case round =>
    clear H hm0
    obtain ⟨m, f, acc, rfl, hm, hf, ha, hacc, H⟩ := hrel
    have hmI : (m : Int) < 4398046511104 := by
      have : m < 128 ^ 6 := Nat.lt_of_lt_of_le hm (Nat.pow_le_pow_right (by omega) (by omega))
      omega
    by_cases hlt : m < 128
    · have hd : decide (128 ≤ (m : Int)) = false := by simp; omega
      have hw : IntKind.u8.wrap (m : Int) = (m : Int) := u8_in (by omega) (by omega)
      have HA := Lib.hid (H.out.alloc (.cells #[.int .u8 (m : Int)] 5 (0, 0)))
      have HN := Lib.hid (heap_alloc_new wr (.cells #[.int .u8 (m : Int)] 5 (0, 0)))
      have ha2 : acc.length ≤ 10 := by omega
      rw [encN_last hlt] at hacc
      have HX : Hid (numX (m0 : Int) = acc ++ [m]) := Lib.hid (HE.out.2.trans hacc.symm)
      have HK := Lib.hid HE.out.1
      clear hacc H HE hm ha hmI
      go_wp2_with (first | (at_builtin; refine wpList_push rfl (.tmp 22) (.tmp 25) 60 rfl 5 i0 (.int .u8 0) 1 1 Tryz.underlying60 hi hz0 hz1 hz2 rfl (by decide) HA.out 0 u4 acc.length (bysC acc) rfl rfl wr.heap.size #[.int .u8 (m : Int)] 5 (0, 0) rfl HN.out rfl (by simp [Value.oneCell']) (by unfold maxLen; omega) (by omega) ?_; intro g cap w1 h1) | go_in)
      have H1 := Lib.hid h1
      clear h1
      go_wp2_with fail
      go_ret2
      rw [HK.out, HX.out]
      exact ⟨_, rfl, by have := H1.out; simpa [bysR, bysC] using this⟩
    · have hd : 128 ≤ (m : Int) := by omega
      have e1 : (m : Int).tmod 128 = ((m % 128 : Nat) : Int) := by rw [Int.tmod_eq_emod_of_nonneg (by omega)]; omega
      have e2 : (m : Int).tdiv 128 = ((m / 128 : Nat) : Int) := by rw [Int.tdiv_eq_ediv_of_nonneg (by omega)]; omega
      have hlo : m % 128 < 128 := by omega
      generalize hr : m % 128 = r at *
      generalize hq : m / 128 = q at *
      have hw : IntKind.u8.wrap (128 + (r : Int)) = 128 + (r : Int) := u8_in (by omega) (by omega)
      have HA := Lib.hid (H.out.alloc (.cells #[.int .u8 (128 + (r : Int))] 5 (0, 0)))
      have HN := Lib.hid (heap_alloc_new wr (.cells #[.int .u8 (128 + (r : Int))] 5 (0, 0)))
      have ha2 : acc.length ≤ 10 := by omega
      go_wp2_with (first | (at_builtin; refine wpList_push rfl (.tmp 13) (.tmp 18) 60 rfl 5 i0 (.int .u8 0) 1 1 Tryz.underlying60 hi hz0 hz1 hz2 rfl (by decide) HA.out 0 u4 acc.length (bysC acc) rfl rfl wr.heap.size #[.int .u8 (128 + (r : Int))] 5 (0, 0) rfl HN.out rfl (by simp [Value.oneCell']) (by unfold maxLen; omega) (by omega) ?_; intro g cap w1 h1) | go_in)
      have H1 := Lib.hid h1
      clear h1 HA HN H
      go_wp2_with fail
      go_roundw
      case rel =>
        obtain ⟨f', rfl⟩ : ∃ f', f = f' + 1 := by
          cases f with
          | zero => simp at hm; omega
          | succ f => exact ⟨f, rfl⟩
        refine ⟨q, f', acc ++ [r + 128], rfl, ?_, by omega, by simp; omega, ?_, Lib.hid ?_⟩
        · rw [Nat.pow_succ] at hm; rw [← hq]; exact (Nat.div_lt_iff_lt_mul (by omega)).2 hm
        · rw [← hacc, encN_more (by omega : 128 ≤ m), hr, hq]; simp
        · have := H1.out
          simpa [bysR, bysC, Int.add_comm] using this
      case measure => simp [intOf]; omega

theorem rzig_any (n : Int) : Calls Tryz.prog 198 #[.int .i64 n] W fun e w' => e = .returned (.int .i64 (zigX n)) ∧ W = w' := by
  by_cases h1 : n < -549755813888
  · have HE : Hid (zigX n = 0) := Lib.hid (by unfold zigX; rw [show sgnOk n = false by unfold sgnOk; simp; omega]; rfl)
    go_enter Tryz.func198, Tryz.ntmps198
    go_wp2_with fail
    go_ret
    rw [HE.out]
    exact ⟨rfl, rfl⟩
  have h1' : decide (n < -549755813888) = false := by simp; omega
  by_cases h2 : 549755813888 ≤ n
  · have HE : Hid (zigX n = 0) := Lib.hid (by unfold zigX; rw [show sgnOk n = false by unfold sgnOk; simp; omega]; rfl)
    go_enter Tryz.func198, Tryz.ntmps198
    go_wp2_with fail
    go_ret
    rw [HE.out]
    exact ⟨rfl, rfl⟩
  have h2' : decide (549755813888 ≤ n) = false := by simp; omega
  have hk : sgnOk n = true := by unfold sgnOk; simp; omega
  by_cases h3 : n < 0
  · have HE : Hid (zigX n = -2 * n - 1) := Lib.hid (by unfold zigX zigN; rw [hk, if_pos rfl, if_pos h3]; omega)
    clear hk
    go_enter Tryz.func198, Tryz.ntmps198
    go_wp2_with fail
    go_ret
    rw [HE.out]
    exact ⟨rfl, rfl⟩
  · have h3' : decide (n < 0) = false := by simp; omega
    have HE : Hid (zigX n = 2 * n) := Lib.hid (by unfold zigX zigN; rw [hk, if_pos rfl, if_neg h3]; omega)
    clear hk
    go_enter Tryz.func198, Tryz.ntmps198
    go_wp2_with fail
    go_ret
    rw [HE.out]
    exact ⟨rfl, rfl⟩



set_option maxHeartbeats 2000000 in
set_option maxRecDepth 100000 in
theorem pnum_any (n : Int) (h : Own B w0 W (pnL p v s ss)) (hl : s.out.length ≤ 1000000000000) :
    Calls Tryz.prog 122 #[.pointer (some ⟨p, 0, none⟩), .int .i64 n] W fun e w' => e = .returned (.tuple #[]) ∧ ∃ v', Own B w0 w' (pnL p v' (wNum s n) ss) := by
  obtain ⟨i0, hi, hz0, hz1, hz2⟩ := info_parts Tryz.infoU8
  have HN := Lib.hid (rnum_any n h)
  have hx := numX_len n
  have HW : Hid (wNum s n = ⟨s.out ++ numX n, s.bad || !numOk n⟩) := Lib.hid rfl
  generalize wNum s n = s' at *
  generalize numX n = bs at *
  generalize numOk n = ok at *
  obtain ⟨out, bad⟩ := s
  simp only at hl h HW
  obtain ⟨ao, cap, rfl, -, -⟩ := bys_reads (k := 1) h rfl
  have hone := bysC_one bs
  clear h
  go_enter Tryz.func122, Tryz.ntmps122
  go_wp2_with fail
  refine HN.out.mono ?_
  rintro e w1 ⟨v2, rfl, h0⟩
  have h := h0.rot'
  obtain ⟨bo, bcap, rfl, -, -⟩ := bys_reads (k := 2) h rfl
  have x0 : w1.cell? ⟨p, 0, none⟩ = some (.slice ao out.length cap) := cell_blk h.blk_out 0 rfl
  have x1 : w1.cell? ⟨p, 1, none⟩ = some (.bool bad) := cell_blk h.blk_out 1 rfl
  have z1 := block_frozen h.blk_out 1
  have HS : ∀ b : Bool, Hid (Own B w0 (w1.setCell ⟨p, 1, none⟩ (.bool b)) (pnL p (.slice ao out.length cap) ⟨out, b⟩ (bysR (.slice bo bs.length bcap) bs :: ss))) := fun b => Lib.hid (Own.storeTo h 1 (.bool b) rfl)
  have H1 := HS (bad || !ok)
  have H1b := Lib.hid (bys_reads (k := 2) H1.out rfl)
  have x2 : (w1.setCell ⟨p, 1, none⟩ (.bool (bad || !ok))).cell? ⟨p, 0, none⟩ = some (.slice ao out.length cap) := cell_blk H1.out.blk_out 0 rfl
  clear h h0 HS HN
  cases bad <;> cases ok <;> (
    simp only [Bool.true_or, Bool.false_or, Bool.or_false, Bool.or_true, Bool.not_true, Bool.not_false] at *
    go_wp2_with (at_builtin; refine wpList_pushAll rfl (.tmp 26) (.tmp 27) 60 rfl 5 i0 (.int .u8 0) 1 1 Tryz.underlying60 hi hz0 hz1 hz2 rfl (by decide) H1.out 1 (.slice ao out.length cap) out.length (bysC out) rfl rfl (.slice bo bs.length bcap) bs.length (bysC bs) rfl H1b.out hone (by unfold maxLen; omega) (by omega) ?_)
    intro ao' cap' w2 h2
    have h3 : Own B w0 w2 (blk p (.cells #[.slice ao out.length cap, .bool _] 205 (0, 0)) :: ownR 5 1 (.slice ao' (out.length + bs.length) cap') (out.length + bs.length) (bysC out ++ bysC bs) :: bysR (.slice bo bs.length bcap) bs :: ss) := h2
    have x3 : w2.cell? ⟨p, 0, none⟩ = some (.slice ao out.length cap) := cell_blk (h3.blkAt 0 rfl) 0 rfl
    have z3 := block_frozen (h3.blkAt 0 rfl) 0
    have H3 := Lib.hid ((Own.storeTo h3 0 (.slice ao' (out.length + bs.length) cap') rfl).dropAt 2 (by simp))
    clear h2 h3 H1 H1b
    go_wp2_with fail
    refine bodyPost_end (results_none rfl _ _ _) rfl ?_
    rw [HW.out]
    refine ⟨rfl, .slice ao' (out.length + bs.length) cap', ?_⟩
    have := H3.out
    simpa [pnL, bysR, bysC, setIn] using this)


set_option maxHeartbeats 2000000 in
set_option maxRecDepth 100000 in
theorem plst_any (n : Int) (h : Own B w0 W (pnL p v s ss)) (hl : s.out.length ≤ 1000000000000) :
    Calls Tryz.prog 199 #[.pointer (some ⟨p, 0, none⟩), .int .i64 n] W fun e w' => e = .returned (.tuple #[]) ∧ ∃ v', Own B w0 w' (pnL p v' (pLst s n) ss) := by
  obtain ⟨out, bad⟩ := s
  simp only at hl h
  have x1 : W.cell? ⟨p, 1, none⟩ = some (.bool bad) := cell_blk h.blk_out 1 rfl
  have z1 := block_frozen h.blk_out 1
  have HS : Hid (∀ b : Bool, Own B w0 (W.setCell ⟨p, 1, none⟩ (.bool b)) (pnL p v ⟨out, b⟩ ss)) := Lib.hid (fun b => Own.storeTo h 1 (.bool b) rfl)
  clear h
  cases bad with
  | true =>
    have HE : Hid (pLst ⟨out, true⟩ n = wNum ⟨out, true⟩ n) := Lib.hid (by unfold pLst; simp)
    have HC := Lib.hid (pnum_any (n) (HS.out true) hl)
    clear HS
    go_enter Tryz.func199, Tryz.ntmps199
    go_wp2_with fail
    refine HC.out.mono ?_
    rintro e w1 ⟨rfl, v1, h2⟩
    have H2 := Lib.hid h2
    clear h2 HC
    go_wp2_with fail
    refine bodyPost_end (results_none rfl _ _ _) rfl ?_
    rw [HE.out]
    exact ⟨rfl, v1, H2.out⟩
  | false =>
    by_cases hb : 256 < n
    · have HE : Hid (pLst ⟨out, false⟩ n = wNum ⟨out, true⟩ n) := Lib.hid (by unfold pLst; simp [hb])
      have HC := Lib.hid (pnum_any (n) (HS.out true) hl)
      clear HS
      go_enter Tryz.func199, Tryz.ntmps199
      go_wp2_with fail
      refine HC.out.mono ?_
      rintro e w1 ⟨rfl, v1, h2⟩
      have H2 := Lib.hid h2
      clear h2 HC
      go_wp2_with fail
      refine bodyPost_end (results_none rfl _ _ _) rfl ?_
      rw [HE.out]
      exact ⟨rfl, v1, H2.out⟩
    · have hb' : decide (256 < n) = false := by simp; omega
      have HE : Hid (pLst ⟨out, false⟩ n = wNum ⟨out, false⟩ n) := Lib.hid (by unfold pLst; simp [hb'])
      clear hb
      have HC := Lib.hid (pnum_any (n) (HS.out false) hl)
      clear HS
      go_enter Tryz.func199, Tryz.ntmps199
      go_wp2_with fail
      refine HC.out.mono ?_
      rintro e w1 ⟨rfl, v1, h2⟩
      have H2 := Lib.hid h2
      clear h2 HC
      go_wp2_with fail
      refine bodyPost_end (results_none rfl _ _ _) rfl ?_
      rw [HE.out]
      exact ⟨rfl, v1, H2.out⟩

set_option maxHeartbeats 2000000 in
set_option maxRecDepth 100000 in
theorem psgn_any (n : Int) (h : Own B w0 W (pnL p v s ss)) (hl : s.out.length ≤ 1000000000000) :
    Calls Tryz.prog 123 #[.pointer (some ⟨p, 0, none⟩), .int .i64 n] W fun e w' => e = .returned (.tuple #[]) ∧ ∃ v', Own B w0 w' (pnL p v' (pSgn s n) ss) := by
  obtain ⟨out, bad⟩ := s
  simp only at hl h
  have x1 : W.cell? ⟨p, 1, none⟩ = some (.bool bad) := cell_blk h.blk_out 1 rfl
  have z1 := block_frozen h.blk_out 1
  have HS : Hid (∀ b : Bool, Own B w0 (W.setCell ⟨p, 1, none⟩ (.bool b)) (pnL p v ⟨out, b⟩ ss)) := Lib.hid (fun b => Own.storeTo h 1 (.bool b) rfl)
  clear h
  cases bad with
  | true =>
    have HE : Hid (pSgn ⟨out, true⟩ n = wNum ⟨out, true⟩ (zigX n)) := Lib.hid (by unfold pSgn; simp)
    have HC := Lib.hid (pnum_any (zigX n) (HS.out true) hl)
    have HZ := Lib.hid (fun w => rzig_any (W := w) n)
    clear HS
    go_enter Tryz.func123, Tryz.ntmps123
    go_wp2_with fail
    refine (HZ.out _).mono ?_
    rintro e w1 ⟨rfl, rfl⟩
    go_wp2_with fail
    refine HC.out.mono ?_
    rintro e w1 ⟨rfl, v1, h2⟩
    have H2 := Lib.hid h2
    clear h2 HC
    go_wp2_with fail
    refine bodyPost_end (results_none rfl _ _ _) rfl ?_
    rw [HE.out]
    exact ⟨rfl, v1, H2.out⟩
  | false =>
    by_cases hb : n < -549755813888
    · have HE : Hid (pSgn ⟨out, false⟩ n = wNum ⟨out, true⟩ (zigX n)) := Lib.hid (by unfold pSgn; rw [show sgnOk n = false by unfold sgnOk; simp; omega]; rfl)
      have HC := Lib.hid (pnum_any (zigX n) (HS.out true) hl)
      have HZ := Lib.hid (fun w => rzig_any (W := w) n)
      clear HS
      go_enter Tryz.func123, Tryz.ntmps123
      go_wp2_with fail
      refine (HZ.out _).mono ?_
      rintro e w1 ⟨rfl, rfl⟩
      go_wp2_with fail
      refine HC.out.mono ?_
      rintro e w1 ⟨rfl, v1, h2⟩
      have H2 := Lib.hid h2
      clear h2 HC
      go_wp2_with fail
      refine bodyPost_end (results_none rfl _ _ _) rfl ?_
      rw [HE.out]
      exact ⟨rfl, v1, H2.out⟩
    · have hb' : decide (n < -549755813888) = false := by simp; omega
      by_cases hc : 549755813888 ≤ n
      · have HE : Hid (pSgn ⟨out, false⟩ n = wNum ⟨out, true⟩ (zigX n)) := Lib.hid (by unfold pSgn; rw [show sgnOk n = false by unfold sgnOk; simp; omega]; rfl)
        clear hb
        have HC := Lib.hid (pnum_any (zigX n) (HS.out true) hl)
        have HZ := Lib.hid (fun w => rzig_any (W := w) n)
        clear HS
        go_enter Tryz.func123, Tryz.ntmps123
        go_wp2_with fail
        refine (HZ.out _).mono ?_
        rintro e w1 ⟨rfl, rfl⟩
        go_wp2_with fail
        refine HC.out.mono ?_
        rintro e w1 ⟨rfl, v1, h2⟩
        have H2 := Lib.hid h2
        clear h2 HC
        go_wp2_with fail
        refine bodyPost_end (results_none rfl _ _ _) rfl ?_
        rw [HE.out]
        exact ⟨rfl, v1, H2.out⟩
      · have hc' : decide (549755813888 ≤ n) = false := by simp; omega
        have HE : Hid (pSgn ⟨out, false⟩ n = wNum ⟨out, false⟩ (zigX n)) := Lib.hid (by unfold pSgn; rw [show sgnOk n = true by unfold sgnOk; simp; omega]; rfl)
        clear hb hc
        have HC := Lib.hid (pnum_any (zigX n) (HS.out false) hl)
        have HZ := Lib.hid (fun w => rzig_any (W := w) n)
        clear HS
        go_enter Tryz.func123, Tryz.ntmps123
        go_wp2_with fail
        refine (HZ.out _).mono ?_
        rintro e w1 ⟨rfl, rfl⟩
        go_wp2_with fail
        refine HC.out.mono ?_
        rintro e w1 ⟨rfl, v1, h2⟩
        have H2 := Lib.hid h2
        clear h2 HC
        go_wp2_with fail
        refine bodyPost_end (results_none rfl _ _ _) rfl ?_
        rw [HE.out]
        exact ⟨rfl, v1, H2.out⟩

end
end Go.Proofs.YtannckelmojkoaaGreat
