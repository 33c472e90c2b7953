/- Parts of the proof, one behind the other. -/
import Derived.Test.YtannckelmojkoaaGreatPasB1
set_option maxHeartbeats 32000000
set_option maxRecDepth 100000
namespace Go.Proofs.YtannckelmojkoaaGreat
open Go.RowKit Go.Heap
section
variable {B : Nat} {w0 w W W' : World} {ss rs : List Res} {vt g cap f : Nat} {l : List Vo}
theorem vo_len (l : List Vo) : (l.flatMap voC).length = l.length * 3 := by
 induction l with
 | nil => rfl
 | cons x l ih => rw [List.flatMap_cons, List.length_append, ih, List.length_cons]; show 3 + _ = _; omega
theorem vo_at {A : List Nat} (h : (cvR g l).At W A) (k : Nat) (hk : k < l.length) : W.cell? ⟨g, k * 3, none⟩ = some (.bool l[k].has) ∧ W.cell? ⟨g, k * 3 + 1, none⟩ = some (.int .i64 l[k].view) ∧ W.cell? ⟨g, k * 3 + 2, none⟩ = some (.int .i64 l[k].sl) ∧
  W.frozen? ⟨g, k * 3, none⟩ = false ∧ W.frozen? ⟨g, k * 3 + 1, none⟩ = false ∧ W.frozen? ⟨g, k * 3 + 2, none⟩ = false := by
 obtain ⟨-, h2, h3⟩ := zcv h
 have hj : ∀ j, j < 3 → W.cell? ⟨g, k * 3 + j, none⟩ = (voC l[k])[j]? := fun j hj => by
  rw [h2 _ (by rw [vo_len]; omega), flat_get (cells := voC) (sz := 3) (fun _ => rfl) l k j l[k] (by simp) hj]
 exact ⟨hj 0 (by omega), hj 1 (by omega), hj 2 (by omega), h3 _, h3 _, h3 _⟩
theorem own_putVo (h : Own B w0 W (cvR g l :: rs)) (k : Nat) (hk : k < l.length) (x : Vo) : Own B w0 (((W.setCell ⟨g, k * 3, none⟩ (.bool x.has)).setCell ⟨g, k * 3 + 1, none⟩ (.int .i64 x.view)).setCell ⟨g, k * 3 + 2, none⟩ (.int .i64 x.sl)) (cvR g (l.set k x) :: rs) := by
 have h1 := ((h.put (k * 3 + 0) (.bool x.has)).put (k * 3 + 1) (.int .i64 x.view)).put (k * 3 + 2) (.int .i64 x.sl)
 rw [ze9 (cells := voC) (sz := 3) (fun _ => rfl) l k 0 l[k] ⟨x.has, l[k].view, l[k].sl⟩ _ (by simp) (by omega) rfl] at h1
 rw [ze9 (cells := voC) (sz := 3) (fun _ => rfl) (l.set k ⟨x.has, l[k].view, l[k].sl⟩) k 1 ⟨x.has, l[k].view, l[k].sl⟩ ⟨x.has, x.view, l[k].sl⟩ _ (by simp [hk]) (by omega) rfl, List.set_set] at h1
 rw [ze9 (cells := voC) (sz := 3) (fun _ => rfl) (l.set k ⟨x.has, x.view, l[k].sl⟩) k 2 ⟨x.has, x.view, l[k].sl⟩ x _ (by simp [hk]) (by omega) rfl, List.set_set] at h1
 exact h1
abbrev cvL (vt g cap f : Nat) (l : List Vo) (rs : List Res) : List Res := blk vt (cvO f g l.length cap) :: cvR g l :: rs
theorem vput_any {node view sl : Int} (h : Own B w0 W (cvL vt g cap f l ss)) (hcap : l.length ≤ cap) (hn : l.length ≤ 100) :
  Calls Tryz.prog 167 #[.pointer (some ⟨vt, 0, none⟩), .int .i64 node, .int .i64 view, .int .i64 sl] W fun e w' => e = .returned (.bool (putB l node view)) ∧ Own B w0 w' (cvL vt g cap f (putL l node view sl) ss) := by
 have H := Lib.hid h
 have c1 : W.cell? ⟨vt, 1, none⟩ = some (.slice (some ⟨g, 0, none⟩) l.length cap) := zaa h.blk_out 1 rfl
 have HP : Hid (putB l node view = (decide (0 ≤ node) && (decide (node < l.length) && (decide (0 ≤ view) && (decide (view < 12) && !((voAt l node.toNat).has && decide (view ≤ (voAt l node.toNat).view))))))) := Lib.hid rfl
 have HL : Hid (putL l node view sl = if putB l node view then l.set node.toNat ⟨true, view, sl⟩ else l) := Lib.hid rfl
 generalize putL l node view sl = l' at *
 generalize putB l node view = r at *
 clear h
 by_cases p0 : node < 0
 ·have hr : r = false := by rw [HP.out, decide_eq_false (by omega)]; rfl
  subst hr
  have hl' : l' = l := HL.out
  subst hl'
  clear HL HP
  go_enter Tryz.func167, Tryz.ntmps167
  go_wp2_with fail
  go_ret
  exact ⟨rfl, H.out⟩
 have d0 : decide (node < 0) = false := by simp; omega
 obtain ⟨k, rfl⟩ : ∃ k : Nat, node = k := ⟨node.toNat, by omega⟩
 by_cases p1 : l.length ≤ k
 ·have hr : r = false := by rw [HP.out, decide_eq_false (show ¬ (k : Int) < (l.length : Int) by omega), Bool.false_and, Bool.and_false]
  subst hr
  have hl' : l' = l := HL.out
  subst hl'
  have d1 : (l'.length : Int) ≤ (k : Int) := by omega
  clear HL HP
  go_enter Tryz.func167, Tryz.ntmps167
  go_wp2_with fail
  go_ret
  exact ⟨rfl, H.out⟩
 have hk : k < l.length := by omega
 have d1 : decide ((l.length : Int) ≤ (k : Int)) = false := by simp; omega
 have d1N : decide (l.length ≤ k) = false := by simp; omega
 have hk0 : (0 : Int) ≤ (k : Int) := by omega
 have hkI : (k : Int) < (l.length : Int) := by omega
 have hcI : (l.length : Int) ≤ (cap : Int) := by omega
 rw [decide_eq_true hk0, decide_eq_true hkI, Bool.true_and, Bool.true_and, Int.toNat_natCast, show voAt l k = l[k] by unfold voAt; simp [List.getD, hk]] at HP
 rw [Int.toNat_natCast] at HL
 by_cases p2 : view < 0
 ·have hr : r = false := by rw [HP.out, decide_eq_false (by omega)]; rfl
  subst hr
  have hl' : l' = l := HL.out
  subst hl'
  clear HL HP
  go_enter Tryz.func167, Tryz.ntmps167
  go_wp2_with fail
  go_ret
  exact ⟨rfl, H.out⟩
 have d2 : decide (view < 0) = false := by simp; omega
 by_cases p3 : 12 ≤ view
 ·have hr : r = false := by rw [HP.out, decide_eq_false (show ¬ view < 12 by omega), Bool.false_and, Bool.and_false]
  subst hr
  have hl' : l' = l := HL.out
  subst hl'
  clear HL HP p2
  go_enter Tryz.func167, Tryz.ntmps167
  go_wp2_with fail
  go_ret
  exact ⟨rfl, H.out⟩
 have d3 : decide (12 ≤ view) = false := by simp; omega
 rw [decide_eq_true (show 0 ≤ view by omega), decide_eq_true (show view < 12 by omega), Bool.true_and, Bool.true_and] at HP
 obtain ⟨q0, q1, q2, z0, z1, z2⟩ := vo_at H.out.drop.head k hk
 have HS := Lib.hid ((own_putVo H.out.swap k hk ⟨true, view, sl⟩).swap)
 generalize l[k] = x at *
 obtain ⟨has, xv, xs⟩ := x
 simp only at q0 q1 q2 HP
 cases has with
 | true =>
  by_cases p4 : view ≤ xv
  ·have hr : r = false := by rw [HP.out, decide_eq_true p4]; rfl
   subst hr
   have hl' : l' = l := HL.out
   subst hl'
   clear HL HP p2 p3
   go_enter Tryz.func167, Tryz.ntmps167
   go_wp2_with fail
   go_ret
   exact ⟨rfl, H.out⟩
  ·have d4 : decide (view ≤ xv) = false := by simp; omega
   have hr : r = true := by rw [HP.out, d4]; rfl
   subst hr
   have hl' : l' = l.set k ⟨true, view, sl⟩ := HL.out
   subst hl'
   have HE : Hid (Own B w0 _ (cvL vt g cap f (l.set k ⟨true, view, sl⟩) ss)) := Lib.hid (by rw [cvL, List.length_set]; exact HS.out)
   clear HL HP p2 p3 HS
   go_enter Tryz.func167, Tryz.ntmps167
   go_wp2_with fail
   go_ret
   exact ⟨rfl, HE.out⟩
 | false =>
  have hr : r = true := by rw [HP.out]; rfl
  subst hr
  have hl' : l' = l.set k ⟨true, view, sl⟩ := HL.out
  subst hl'
  have HE : Hid (Own B w0 _ (cvL vt g cap f (l.set k ⟨true, view, sl⟩) ss)) := Lib.hid (by rw [cvL, List.length_set]; exact HS.out)
  clear HL HP p2 p3 HS
  go_enter Tryz.func167, Tryz.ntmps167
  go_wp2_with fail
  go_ret
  exact ⟨rfl, HE.out⟩
theorem eGo_step (view : Int) (q : Nat) (l : List Vo) (k : Nat) (hk : k < l.length) (acc : Vs) : eGo view q (l.drop k) k acc = eGo view q (l.drop (k + 1)) (k + 1) (if l[k].has && (l[k].view == view) && decide (acc.length < q) then acc ++ [((k : Int), l[k].sl)] else acc) := by
 rw [← List.getElem_cons_drop hk]; rfl
theorem eGo_len (view : Int) (q : Nat) : ∀ (l : List Vo) (i : Nat) (acc : Vs), acc.length ≤ q → (eGo view q l i acc).length ≤ q
 | [], _, _, h => h
 | x :: l, i, acc, h => by
  unfold eGo
  refine eGo_len view q l (i + 1) _ ?_
  split
  ·rename_i hc
   simp only [Bool.and_eq_true, decide_eq_true_eq] at hc
   simp; omega
  ·exact h
theorem venough_any {view : Int} (h : Own B w0 W (cvL vt g cap f l ss)) (hcap : l.length ≤ cap) (hn : l.length ≤ 100) (hf1 : 1 ≤ f) (hf2 : f ≤ 4) :
  Calls Tryz.prog 168 #[.pointer (some ⟨vt, 0, none⟩), .int .i64 view] W fun e w' => ∃ v', e = .returned (.tuple #[v', .bool (decide ((zot l view (2 * f + 1)).length = 2 * f + 1))]) ∧
   Own B w0 w' (ownR 177 2 v' (if (zot l view (2 * f + 1)).length = 2 * f + 1 then zot l view (2 * f + 1) else []).length (zan (if (zot l view (2 * f + 1)).length = 2 * f + 1 then zot l view (2 * f + 1) else [])) :: cvL vt g cap f l ss) := by
 obtain ⟨i0, hi, hz0, hz1, hz2⟩ := info_parts Tryz.infoVote
 have c1 : W.cell? ⟨vt, 1, none⟩ = some (.slice (some ⟨g, 0, none⟩) l.length cap) := zaa h.blk_out 1 rfl
 have H0 := Lib.hid (h.row0 (E := 177) (sz := 2))
 obtain ⟨res, HR⟩ : ∃ res, Hid (eGo view (2 * f + 1) l 0 [] = res) := ⟨_, Lib.hid rfl⟩
 have hlen : res.length ≤ 2 * f + 1 := by rw [← HR.out]; exact eGo_len _ _ _ _ _ (by simp)
 rw [show zot l view (2 * f + 1) = res from HR.out]
 obtain ⟨fin, HF⟩ : ∃ fin : Vs, Hid ((if res.length = 2 * f + 1 then res else []) = fin) := ⟨_, Lib.hid rfl⟩
 rw [HF.out]
 have HQ := Lib.hid (fun w => zj1 (f : Int) w (by omega) (by omega))
 clear h
 go_enter Tryz.func168, Tryz.ntmps168
 go_wp2_with fail
 go_loopw [6, 14] (fun out i wr => ∃ (k : Nat) (A : Vs) (ao : Option Addr) (ac : Nat), k ≤ l.length ∧ A.length ≤ k ∧ i = .int .i64 k ∧ out = .slice ao A.length ac ∧ Hid (eGo view (2 * f + 1) (l.drop k) k A = res) ∧ Hid (Own B w0 wr (ownR 177 2 (.slice ao A.length ac) A.length (zan A) :: cvL vt g cap f l ss))) (fun _ i _ => l.length - (intOf i).toNat)
 case atStart => exact ⟨0, [], none, 0, by omega, by simp, rfl, rfl, Lib.hid (by simpa using HR.out), H0⟩
 case round =>
  clear H0 c1 HR
  obtain ⟨k, A, ao, ac, hk, hAk, rfl, rfl, HE, HO⟩ := hrel
  have c0 : wr.cell? ⟨vt, 0, none⟩ = some (.int .i64 f) := zaa (HO.out.blkAt 1 rfl) 0 rfl
  by_cases hlt : k < l.length
  ·have hkI : (k : Int) < (l.length : Int) := by omega
   have hk0 : (0 : Int) ≤ (k : Int) := by omega
   have hcI : (l.length : Int) ≤ (cap : Int) := by omega
   obtain ⟨q0, q1, q2, -, -, -⟩ := vo_at (HO.out.get 2 rfl) k hlt
   have HX := Lib.hid ((eGo_step view (2 * f + 1) l k hlt A).symm.trans HE.out)
   have hAl : A.length ≤ 100 := by omega
   clear HE
   generalize l[k] = x at *
   obtain ⟨has, xv, xs⟩ := x
   simp only at q0 q1 q2 HX
   have HO2 := Lib.hid (HO.out.alloc (.cells #[.bool has, .int .i64 xv, .int .i64 xs] 320 (0, 0)))
   have c0' := zaj ((Upd.refl [] wr).alloc (.cells #[.bool has, .int .i64 xv, .int .i64 xs] 320 (0, 0))) c0
   cases has with
   | false =>
    simp only [Bool.false_and, Bool.false_eq_true, if_false] at HX
    go_wp2_with fail
    go_roundw
    case rel => exact ⟨k + 1, A, ao, ac, by omega, by omega, by go_num, rfl, Lib.hid (HX.out), HO2⟩
    case measure => simp [intOf]; omega
   | true =>
    simp only [Bool.true_and] at HX
    by_cases hv : xv = view
    ·have hve : (xv == view) = true := by simp [hv]
     rw [hve] at HX
     simp only [Bool.true_and, decide_eq_true_eq] at HX
     clear hv
     by_cases hq : A.length < 2 * f + 1
     ·have hqI : (A.length : Int) < 2 * (f : Int) + 1 := by omega
      rw [if_pos hq] at HX
      go_wp2_with fail
      refine (HQ.out _).mono ?_
      rintro e w1 ⟨rfl, rfl⟩
      have HO3 := Lib.hid (HO2.out.alloc (.cells #[.int .i64 k, .int .i64 xs] 177 (0, 0)))
      have HN : Hid (((wr.alloc (.cells #[.bool true, .int .i64 xv, .int .i64 xs] 320 (0, 0))).alloc (.cells #[.int .i64 k, .int .i64 xs] 177 (0, 0))).heap[wr.heap.size + 1]? = some (.cells #[.int .i64 k, .int .i64 xs] 177 (0, 0))) := Lib.hid (by have h9 := heap_alloc_new (wr.alloc (.cells #[.bool true, .int .i64 xv, .int .i64 xs] 320 (0, 0))) (.cells #[.int .i64 k, .int .i64 xs] 177 (0, 0)); rw [za4] at h9; exact h9)
      go_wp2_with (at_builtin; refine zba rfl (.tmp 37) (.tmp 42) 40 rfl 177 i0 (.agg #[.int .i64 0, .int .i64 0]) 2 16 Tryz.underlying40 hi hz0 hz1 hz2 rfl (by decide) HO3.out 0 (.slice ao A.length ac) A.length (zan A) rfl rfl (wr.heap.size + 1) #[.int .i64 k, .int .i64 xs] 177 (0, 0) rfl HN.out rfl (by simp [Value.oneCell']) (by unfold maxLen; omega) (by omega) ?_)
      intro g2 cap2 w2 h2
      have H2 : Hid (Own B w0 w2 (ownR 177 2 (.slice (some ⟨g2, 0, none⟩) (A ++ [((k : Int), xs)]).length cap2) (A ++ [((k : Int), xs)]).length (zan (A ++ [((k : Int), xs)])) :: cvL vt g cap f l ss)) := Lib.hid (by simpa [zan] using h2)
      clear h2 HO3 HO2 HO HN
      go_wp2_with fail
      go_roundw
      case rel => exact ⟨k + 1, A ++ [((k : Int), xs)], some ⟨g2, 0, none⟩, cap2, by omega, by simp; omega, by go_num, by simp, HX, H2⟩
      case measure => simp [intOf]; omega
     ·have hqI : decide ((A.length : Int) < 2 * (f : Int) + 1) = false := by simp; omega
      rw [if_neg hq] at HX
      go_wp2_with fail
      refine (HQ.out _).mono ?_
      rintro e w1 ⟨rfl, rfl⟩
      go_wp2_with fail
      go_roundw
      case rel => exact ⟨k + 1, A, ao, ac, by omega, by omega, by go_num, rfl, Lib.hid (HX.out), HO2⟩
      case measure => simp [intOf]; omega
    ·have hve : (xv == view) = false := by simp [hv]
     rw [hve] at HX
     simp only [Bool.false_and, Bool.false_eq_true, if_false] at HX
     clear hv
     go_wp2_with fail
     go_roundw
     case rel => exact ⟨k + 1, A, ao, ac, by omega, by omega, by go_num, rfl, Lib.hid (HX.out), HO2⟩
     case measure => simp [intOf]; omega
  ·have hkI : decide ((k : Int) < (l.length : Int)) = false := by simp; omega
   have e : A = res := by
    have := HE.out
    rw [List.drop_eq_nil_of_le (by omega)] at this
    exact this
   subst e
   by_cases hq : A.length = 2 * f + 1
   ·have hqI : decide ((A.length : Int) < 2 * (f : Int) + 1) = false := by simp; omega
    have hf : fin = A := by rw [← HF.out, if_pos hq]
    subst hf
    have HD : Hid (decide (fin.length = 2 * f + 1) = true) := Lib.hid (by simp [hq])
    clear hq HF
    go_wp2_with fail
    refine (HQ.out _).mono ?_
    rintro e w1 ⟨rfl, rfl⟩
    go_wp2_with fail
    go_ret2
    rw [HD.out]
    exact ⟨_, rfl, HO.out⟩
   ·have hqI : (A.length : Int) < 2 * (f : Int) + 1 := by omega
    have hf : fin = [] := by rw [← HF.out, if_neg hq]
    subst hf
    have HD : Hid (decide (A.length = 2 * f + 1) = false) := Lib.hid (by simp [hq])
    have HO9 := Lib.hid (HO.out.drop.row0 (E := 177) (sz := 2))
    clear hq HF
    go_wp2_with fail
    refine (HQ.out _).mono ?_
    rintro e w1 ⟨rfl, rfl⟩
    go_wp2_with fail
    go_ret2
    rw [HD.out]
    exact ⟨_, rfl, HO9.out⟩
end
theorem chg_form {f : Nat} {cl i v : Int} (h1 : 0 ≤ i) (h2 : i ≤ 3 * f) (h3 : 0 ≤ v) (h4 : v ≤ 11) : formP f cl (chgQ i v) = true := by
 unfold formP chgQ formK zbh inW zeros bareP
 simp [h1, h2, h3, h4]
theorem chg_w {i v : Int} (h1 : 0 ≤ i) (h2 : i ≤ 100) (h3 : 0 ≤ v) (h4 : v ≤ 100) : msW (chgQ i v) = true := by
 have a : numOk i = true := by unfold numOk; simp; omega
 have b : numOk v = true := by unfold numOk; simp; omega
 have c : numOk 6 = true := by decide
 have d : numOk 0 = true := by decide
 have e : sgnOk 0 = true := by decide
 unfold msW chgQ
 simp only [a, b, c, d, e]
 decide
theorem chg_len (i v : Int) : (chgB i v).length ≤ 65530 := by
 have a := zbf i
 have b := zbf v
 unfold chgB chgQ msB
 simp only [List.length_append]
 have c : (numB 6).length = 1 := by decide
 have d : (numB 0).length = 1 := by decide
 have e : (sgnB 0).length = 1 := by decide
 simp [listB, c, d, e]
 omega
theorem chg_body {i v : Int} (h1 : 0 ≤ i) (h2 : i ≤ 100) (h3 : 0 ≤ v) (h4 : v ≤ 100) : bodyP (chgQ i v) = some (chgB i v) := by
 have h := chg_len i v
 unfold chgB at h
 unfold bodyP
 rw [chg_w h1 h2 h3 h4]
 simp only [Bool.true_and]
 rw [if_pos (by simp; omega)]
 rfl
theorem chg_open {l : Nt} {f : Nat} {cl i v : Int} (hn : l.length ≤ 1000000000) (hf : f ≤ 4) (h1 : 0 ≤ i) (h2 : i ≤ 3 * f) (h3 : 0 ≤ v) (h4 : v ≤ 11) : openP (sealL l i (chgB i v)) f cl (givE l i (chgB i v)) = some (chgQ i v, sealN l i (chgB i v)) := by
 have h := zlv (f := f) (cl := cl) (chg_body h1 (by omega) h3 (by omega) : bodyP (chgQ i v) = _) (chg_len i v) hn
 rw [if_pos (chg_form h1 h2 h3 h4)] at h
 exact h
def chgMm (i v : Int) : Mm := ⟨6, i, v, 0, 0, 0, .slice none 0 0, [], .slice none 0 0, [], .slice none 0 0, [], .slice none 0 0, []⟩
section
variable {B : Nat} {w0 w W W' : World} {ss rs : List Res} {rn : Nat} {vp vt v bv : Value} {l : Nt}
end
section
variable {B : Nat} {w0 w W W' : World} {ss rs : List Res} {x : Np} {s s' : Ns} {l l' : Nt}
theorem putL_len (l : List Vo) (node view sl : Int) : (putL l node view sl).length = l.length := by unfold putL; split <;> simp
theorem NdIs.setVo (hok : NsOk s) {vo : List Vo} (h : vo.length = s.vo.length) : NsOk { s with vo := vo } := { hok with vo := h.trans hok.vo }
theorem nd_put (h : NdIs B w0 W x s l ss) (node view sl : Int) :
  Calls Tryz.prog 167 #[ptrV x.vt, .int .i64 node, .int .i64 view, .int .i64 sl] W fun e w' => e = .returned (.bool (putB s.vo node view)) ∧ NdIs B w0 w' x { s with vo := putL s.vo node view sl } l ss := by
 obtain ⟨v, rr, c, d, g⟩ := h.lens 3 (by omega) (by omega)
 have hok := h.ok
 have hf := hok.c.f2
 have hl := hok.vo
 refine (vput_any (node := node) (view := view) (sl := sl) (Own.open d) (by have := c.vk; omega) (by omega)).mono ?_
 rintro e w' ⟨he, ho⟩
 exact ⟨he, g _ _ v ss _ (NdIs.setVo hok (putL_len _ _ _ _)) { c with } rfl (Own.shut (rs := [_, _]) ho)⟩
theorem nd_enough (h : NdIs B w0 W x s l ss) (view : Int) :
  Calls Tryz.prog 168 #[ptrV x.vt, .int .i64 view] W fun e w' => ∃ v', e = .returned (.tuple #[v', .bool (decide ((zot s.vo view (2 * s.c.f + 1)).length = 2 * s.c.f + 1))]) ∧
   NdIs B w0 w' x s l (redR v' 2 (if (zot s.vo view (2 * s.c.f + 1)).length = 2 * s.c.f + 1 then zot s.vo view (2 * s.c.f + 1) else []).length (zan (if (zot s.vo view (2 * s.c.f + 1)).length = 2 * s.c.f + 1 then zot s.vo view (2 * s.c.f + 1) else [])) :: ss) := by
 obtain ⟨v, rr, c, d, g⟩ := h.lens 3 (by omega) (by omega)
 have hok := h.ok
 have hf := hok.c.f2
 have hl := hok.vo
 refine (venough_any (view := view) (Own.open d) (by have := c.vk; omega) (by omega) hok.c.f1 hok.c.f2).mono ?_
 rintro e w' ⟨v', he, ho⟩
 refine ⟨v', he, g _ s v (_ :: ss) _ hok c rfl (Own.shut (rs := [_, _]) ?_)⟩
 exact ho.toRed.rot'
end
section
variable {B : Nat} {w0 w W W' : World} {ss rs : List Res} {x : Np} {s s' : Ns} {l l' : Nt}
theorem NdIs.putShut (h : NdIs B w0 W x s l ss) (v : Int) (h0 : 0 ≤ v) : NdIs B w0 (W.setCell ⟨x.p, 38, none⟩ (.int .i64 v)) x { s with shut := v } l ss := h.put 38 _ (fun _ => rfl) { h.ok with shut0 := h0 } (fun _ c => { c with }) (fun _ => rfl)
theorem ntake_chg {m : Mm} {sl : Int} {fin : Int × NSt} (hk : m.kind = 6) (HC : TakeC B w0 x s l 179 m sl fin) : TakeC B w0 x s l 98 m sl fin := by
 intro W ss h
 obtain ⟨kind, fm, view, inst, seq, res, vb, rs, vv, vs, vc, cts, vp, pts⟩ := m
 obtain ⟨r0, hs0, -⟩ := h.side
 obtain ⟨a1, c1, rfl⟩ : ∃ a c, vb = .slice a rs.length c := let ⟨a, c, e, _⟩ := zad (k := 5) hs0 rfl; ⟨a, c, e⟩
 obtain ⟨a2, c2, rfl⟩ : ∃ a c, vv = .slice a vs.length c := let ⟨a, c, e, _⟩ := zad (k := 4) hs0 rfl; ⟨a, c, e⟩
 obtain ⟨a3, c3, rfl⟩ : ∃ a c, vc = .slice a cts.length c := let ⟨a, c, e, _⟩ := zad (k := 2) hs0 rfl; ⟨a, c, e⟩
 obtain ⟨a4, c4, rfl⟩ : ∃ a c, vp = .slice a pts.length c := let ⟨a, c, e, _⟩ := zad (k := 0) hs0 rfl; ⟨a, c, e⟩
 simp only at hk
 subst hk
 have H8 := Lib.hid (HC _ _ (h.alloc (mmO ⟨6, fm, view, inst, seq, res, .slice a1 rs.length c1, rs, .slice a2 vs.length c2, vs, .slice a3 cts.length c3, cts, .slice a4 pts.length c4, pts⟩)))
 have hb := heap_alloc_new W (mmO ⟨6, fm, view, inst, seq, res, .slice a1 rs.length c1, rs, .slice a2 vs.length c2, vs, .slice a3 cts.length c3, cts, .slice a4 pts.length c4, pts⟩)
 clear hs0 h HC
 go_enter Tryz.func98, Tryz.ntmps98
 go_wp2_with fail
 refine H8.out.mono ?_
 rintro e w2 ⟨rfl, h2⟩
 have HF := Lib.hid h2
 clear h2 H8 hb
 go_wp2_with fail
 go_ret
 exact ⟨rfl, HF.out⟩
end
section
variable {B : Nat} {w0 w W W' : World} {ss rs : List Res} {x : Np} {s s' : Ns} {l l' : Nt} {rn : Nat} {vp : Value} {vt : Rn}
theorem own_nils (h : Own B w0 W rs) (i v : Int) : Own B w0 W (mmR (chgMm i v) rs) := by
 have h1 := zc3 2 (zc3 6 h)
 have h2 : Own B w0 W (ctsR [] :: _) := h1.mkCts (by simp)
 have h3 := zc3 5 h2
 have h4 : Own B w0 W (ptsR [] :: _) := h3.mkPts (by simp)
 exact zc3 4 h4
theorem NdIs.chg (h : NdIs B w0 W x s l ss) (i v : Int) : NdIs B w0 W x s l (mmR (chgMm i v) ss) := by
 obtain ⟨r, hs, hk⟩ := h.side
 exact hk W (mmR (chgMm i v) ss) (own_nils hs i v)
end
section
variable {B : Nat} {w0 w W W' : World} {ss rs : List Res} {x : Np} {s s' : Ns} {l l' : Nt} {rn : Nat} {vp : Value} {vt : Rn}
end
def putV (node view sl : Int) (s : Ns) : Ns := { s with vo := putL s.vo node view sl }
section
variable {B : Nat} {w0 w W W' : World} {ss rs : List Res} {x : Np} {s s' : Ns} {l l' : Nt}
theorem nchange_one {m : Mm} {sl : Int} (h : NdIs B w0 W x s l (mmR m ss)) (hge : ¬ m.view < s.view) (hput : putB s.vo m.fm m.view = true) (hen : (zot (putV m.fm m.view sl s).vo m.view (2 * s.c.f + 1)).length ≠ 2 * s.c.f + 1) :
  Calls Tryz.prog 179 #[ptrV x.p, .agg (mmA m), .int .i64 sl] W fun e w' => e = .returned (.int .i64 0) ∧ NdIs B w0 w' x (putV m.fm m.view sl s) l (mmR m ss) := by
 obtain ⟨kind, fm, view, inst, seq, res, vb, rs, vv, vs, vc, cts, vp, pts⟩ := m
 obtain ⟨r0, hs0, -⟩ := h.side
 obtain ⟨a1, c1, rfl⟩ : ∃ a c, vb = .slice a rs.length c := let ⟨a, c, e, _⟩ := zad (k := 5) hs0 rfl; ⟨a, c, e⟩
 obtain ⟨a2, c2, rfl⟩ : ∃ a c, vv = .slice a vs.length c := let ⟨a, c, e, _⟩ := zad (k := 4) hs0 rfl; ⟨a, c, e⟩
 obtain ⟨a3, c3, rfl⟩ : ∃ a c, vc = .slice a cts.length c := let ⟨a, c, e, _⟩ := zad (k := 2) hs0 rfl; ⟨a, c, e⟩
 obtain ⟨a4, c4, rfl⟩ : ∃ a c, vp = .slice a pts.length c := let ⟨a, c, e, _⟩ := zad (k := 0) hs0 rfl; ⟨a, c, e⟩
 simp only at hge hput hen
 generalize hms : (⟨kind, fm, view, inst, seq, res, .slice a1 rs.length c1, rs, .slice a2 vs.length c2, vs, .slice a3 cts.length c3, cts, .slice a4 pts.length c4, pts⟩ : Mm) = m at h ⊢
 have H0 := Lib.hid (h.box (mmO m))
 have hb := heap_alloc_new W (mmO m)
 subst hms
 have y1 := zaa hb 1 rfl
 have y2 := zaa hb 2 rfl
 have c29 := H0.out.cell 29 rfl (by decide)
 have c20 := H0.out.cell 20 rfl (by decide)
 have b1 : decide (view < s.view) = false := decide_eq_false hge
 have HP := Lib.hid (nd_put H0.out.drew fm view sl)
 rw [hput] at HP
 have HNE := Lib.hid hen
 clear hs0 h hge hput hen
 go_enter Tryz.func179, Tryz.ntmps179
 go_upto_region 1 with fail
 refine Mix.wp_text2 (by kernel_rfl) (by kernel_rfl) ?_
 go_wp2_with fail
 refine HP.out.mono ?_
 rintro e w2 ⟨rfl, h2⟩
 have H2 : Hid (NdIs B w0 w2 x (putV fm view sl s) l _) := Lib.hid h2
 obtain ⟨r2, hs2, -⟩ := h2.side
 have hb2 := hs2.blkAt 0 rfl
 have u2 := zaa hb2 2 rfl
 have d20 := h2.cell 20 rfl (by decide)
 have HE := Lib.hid (nd_enough H2.out.drew view)
 clear h2 HP hs2 hb2 y1 y2 c29 c20 hb
 go_wp2_with fail
 refine ⟨by rfl, ?_⟩
 go_upto_region 3 with fail
 refine Mix.wp_text2 (by kernel_rfl) (by kernel_rfl) ?_
 go_wp2_with fail
 refine HE.out.mono ?_
 rintro e w3 ⟨v', rfl, h3⟩
 clear HE H2 u2 d20
 have hne : ¬ (zot (putV fm view sl s).vo view (2 * (putV fm view sl s).c.f + 1)).length = 2 * (putV fm view sl s).c.f + 1 := HNE.out
 have hb3 : decide ((zot (putV fm view sl s).vo view (2 * (putV fm view sl s).c.f + 1)).length = 2 * (putV fm view sl s).c.f + 1) = false := decide_eq_false hne
 have HF := Lib.hid h3.drop.drop
 rw [hb3]
 obtain ⟨a9, c9, hv9⟩ : ∃ a c, v' = .slice a 0 c := by
  rw [if_neg hne] at h3
  obtain ⟨r3, hs3, -⟩ := h3.side
  obtain ⟨a, c, e, _⟩ := zad (k := 0) hs3 rfl
  exact ⟨a, c, e⟩
 clear h3 hne hb3 HNE
 subst hv9
 go_wp2_with fail
 refine ⟨by rfl, ?_⟩
 go_wp2_with fail
 go_ret
 exact ⟨rfl, HF.out⟩
end
section
variable {B : Nat} {w0 w W W' : World} {ss rs : List Res} {x : Np} {s s' : Ns} {l l' : Nt} {rn : Nat} {vp : Value} {vt : Rn}
end
section
variable {f : Nat} {id n u st : Int} {ds : List (Option Cp)} {bk : Lp} {out : List (Int × Bys)} {sp : Bool} {l : Nt}
end
section
variable {f : Nat} {id u st : Int} {ds : List (Option Cp)} {bk : Lp} {out : List (Int × Bys)} {sp : Bool} {l : Nt}
end
section
variable {f : Nat} {id u st fm : Int} {ds : List (Option Cp)} {bk : Lp} {out : List (Int × Bys)} {l : Nt}
end
section
variable {B : Nat} {w0 w W W' : World} {ss rs : List Res} {x : Np} {s s' : Ns} {l l' : Nt}
end
section
variable {B : Nat} {w0 W : World} {x : Np} {l : Nt} {ss : List Res} {f : Nat} {id n u st : Int} {ds : List (Option Cp)} {bk : Lp} {o : List (Int × Bys)} {sp : Bool}
theorem ad_out (h : NdIs B w0 W x (adS f id ds n bk o u st sp) l ss) : Calls Tryz.prog 26 #[ptrV x.p] W fun e w' => ∃ (a : Option Addr) (k : Nat) (os : List Sd), e = .returned (.slice a os.length k) ∧ os.map Sd.p = o ∧ NdIs B w0 w' x (adS f id ds n bk [] u st sp) l (redR (.slice a os.length k) 2 os.length (os.flatMap sdC) :: sdsR os :: ss) := zv7 h
end
section
variable {B : Nat} {w0 W : World} {ss : List Res} {y : Lg}
end
section
variable {B : Nat} {w0 W : World} {ss : List Res} {x : Np} {s : Ns} {l : Nt}
end
def dsP (cps : Nat → Cp) (n : Nat) : List (Option Cp) := (List.range 16).map fun j => if j < n then some (cps j) else none
theorem dsP_len (cps : Nat → Cp) (n : Nat) : (dsP cps n).length = 16 := by unfold dsP; simp
theorem dsP_at (cps : Nat → Cp) (n : Nat) {j : Nat} (hj : j < 16) : (dsP cps n)[j]? = some (if j < n then some (cps j) else none) := by
 unfold dsP
 rw [List.getElem?_map, List.getElem?_range hj]
 rfl
theorem dsP_set (cps : Nat → Cp) (n : Nat) (c : Cp) : (dsP cps n).set n (some c) = dsP (fun j => if j = n then c else cps j) (n + 1) := by
 refine List.ext_getElem? (fun j => ?_)
 by_cases hj : j < 16
 ·rw [dsP_at _ _ hj, List.getElem?_set]
  by_cases e : n = j
  ·subst e
   rw [if_pos rfl, if_pos (by rw [dsP_len]; exact hj), if_pos (by omega), if_pos rfl]
  ·rw [if_neg e, dsP_at _ _ hj]
   congr 1
   by_cases h : j < n
   ·rw [if_pos h, if_pos (by omega), if_neg (by omega)]
   ·rw [if_neg h, if_neg (by omega)]
 ·rw [List.getElem?_eq_none (by rw [List.length_set, dsP_len]; omega), List.getElem?_eq_none (by rw [dsP_len]; omega)]
theorem dsP_lead (cps : Nat → Cp) {n : Nat} (hn : n ≤ 16) : ((dsP cps n).takeWhile Option.isSome).length = n := by
 have e : (dsP cps n).takeWhile Option.isSome = (dsP cps n).take n := by
  refine takeWhile_take (fun j hj hjl => ?_) (fun hl => ?_)
  ·have := dsP_at cps n (j := j) (by omega)
   rw [if_pos hj, List.getElem?_eq_getElem hjl] at this
   simp only [Option.some.injEq] at this
   rw [this]; rfl
  ·have := dsP_at cps n (j := n) (by rw [dsP_len] at hl; exact hl)
   rw [if_neg (by omega), List.getElem?_eq_getElem hl] at this
   simp only [Option.some.injEq] at this
   rw [this]; rfl
 rw [e, List.length_take, dsP_len]
 omega
theorem dsP_nil (cps : Nat → Cp) : dsP cps 0 = List.replicate 16 none := rfl
structure BkPs (n : Nat) (last : Int) (b : Lp) : Prop where
 ok : BkOk 2 b
 es : b.es.length = n
 rp : (b.rp.getD 0 (0, 0)).1 = last
 st : (b.st.getD 1 (false, 0)).2 = n
 has : (b.st.getD 1 (false, 0)).1 = true ∨ n = 0
def addR (k sl : Int) : Rq := ⟨0, k, 3, 1, 1, sl⟩
theorem bkPs_new (f : Nat) (id : Int) : BkPs 0 0 (newS (stdC f) id).bk := ⟨(bk_new [] f id).ok, rfl, rfl, rfl, .inr rfl⟩
theorem BkPs.get {n : Nat} {last : Int} {b : Lp} (h : BkPs n last b) : (if (b.st.getD 1 (false, 0)).1 then (b.st.getD 1 (false, 0)).2 else 0) = n := by
 rcases h.has with h1 | h1
 ·rw [h1, if_pos rfl, h.st]
 ·have := h.st
  split <;> omega
theorem applyX_add {st : List (Bool × Int)} {k sl : Int} {n : Nat} (h : (st.getD 1 (false, 0)).2 = n) (hn : n ≤ 1000) : za3 st (addR k sl) = ((n : Int) + 1, st.set 1 (true, (n : Int) + 1)) := by
 unfold za3 addR
 simp only [show (1 : Int).toNat = 1 from rfl, h]
 rw [if_neg (by omega), if_neg (by omega), if_neg (by omega), if_pos trivial, if_neg (by omega)]
theorem BkPs.step {n : Nat} {last k sl : Int} {b : Lp} (h : BkPs n last b) (hn : n ≤ 1000) : BkPs (if last < k then n + 1 else n) (if last < k then k else last) (ldg1 b (addR k sl)) := by
 have hrp := h.ok.rp
 have hst := h.ok.st
 by_cases hk : last < k
 ·rw [if_pos hk, if_pos hk]
  have hy := zj3 (r := addR k sl) (c := 0) h.ok rfl (by omega) (by rw [h.rp]; exact hk)
  have e : ldg1 b (addR k sl) = ⟨b.clients, b.es ++ [⟨addR k sl, (za3 b.st (addR k sl)).1⟩], (za3 b.st (addR k sl)).2, b.rp.set 0 (k, (za3 b.st (addR k sl)).1)⟩ := by unfold ldg1; rw [hy]; rfl
  have ea := applyX_add (k := k) (sl := sl) h.st hn
  have hok := zs6 (r := addR k sl) (c := 0) h.ok rfl (by omega)
  rw [e] at hok ⊢
  rw [ea] at hok ⊢
  refine ⟨hok, by simp [h.es], ?_, ?_, .inl ?_⟩
  ·simp only [List.getD_eq_getElem?_getD, List.getElem?_set]
   rw [if_pos trivial, if_pos (by omega)]
   rfl
  ·simp only [List.getD_eq_getElem?_getD, List.getElem?_set]
   rw [if_pos trivial, if_pos (by omega)]
   simp
  ·simp only [List.getD_eq_getElem?_getD, List.getElem?_set]
   rw [if_pos trivial, if_pos (by omega)]
   rfl
 ·rw [if_neg hk, if_neg hk]
  have hy := ztj (r := addR k sl) (c := 0) h.ok rfl (by omega) (by rw [h.rp]; exact hk)
  have e : ldg1 b (addR k sl) = b := by unfold ldg1; rw [hy]
  rw [e]
  exact h
theorem ps_give {f : Nat} {id fm u st last k sl : Int} {cps : Nat → Cp} {i n : Nat} {bk : Lp} {out : List (Int × Bys)} {L : Nt} {c : Cp} (hf : f ≤ 4) (h0 : 0 ≤ id) (h1 : id ≤ 3 * f) (hi : i < 16) (hc : c.seq = i + 1) (hci : c.inst = 0) (hcc : za1 L 5 c f 2 = true) (hcr : c.rs = [addR k sl]) (hq : okReq (addR k sl) 2 = true)
  (hb : BkPs n last bk) (hn : n ≤ i) (hL : L.length ≤ 800000000) :
  ∃ (bk' : Lp) (o : List (Int × Bys)) (L' : Nt), zbm c (adS f id (dsP cps i) i bk out u st false, L) = (0, (adS f id (dsP (fun j => if j = i then c else cps j) (i + 1)) ((i + 1 : Nat) : Int) bk' (out ++ o) u st (decide (16 ≤ i + 1)), L')) ∧
   zg1 fm (zbm c (adS f id (dsP cps i) i bk out u st false, L)) = (adS f id (dsP (fun j => if j = i then c else cps j) (i + 1)) ((i + 1 : Nat) : Int) bk' (out ++ o) (u + 1) st (decide (16 ≤ i + 1)), L') ∧
   BkPs (if last < k then n + 1 else n) (if last < k then k else last) bk' ∧ o.length ≤ 1 ∧ zfb f L' o ∧ Px L L' ∧ L'.length ≤ L.length + 16 := by
 have hds : (dsP cps i)[i]? = some none := by rw [dsP_at _ _ hi, if_neg (by omega)]
 obtain ⟨o, L', e1, e2, e3, e4, e5, e6⟩ := zsl (u := u) (st := st) (out := out) (bk := bk) (l := L) (f := f) (id := id) (n := i) (N := i + 1) (c := c) (fun _ => addR k sl) hf h0 h1 (k := i) hi (dsP_len cps i) hc hci hcc hds (dsP_lead cps (by omega)) (by rw [dsP_set]; exact dsP_lead _ (by omega)) (fun j g1 g2 => by
  have : j = i := by omega
  subst this
  exact ⟨⟨c, by rw [dsP_set, dsP_at _ _ hi, if_pos (by omega), if_pos rfl], hcr⟩, hq⟩) hb.ok (by omega)
 rw [show i + 1 - i = 1 by omega] at e1 e2 e6
 have es : ldgs (fun _ => addR k sl) bk i 1 = ldg1 bk (addR k sl) := rfl
 rw [es] at e1 e2 e6
 rw [dsP_set] at e1
 have hs := hb.step (k := k) (sl := sl) (by omega)
 refine ⟨_, o, L', e1, ?_, hs, ?_, e3, e4, e5⟩
 ·rw [e1, zsq]
 ·have h2 := hs.es
  have h3 := hb.es
  split at h2 <;> omega
section
variable {B : Nat} {w0 W W' : World} {x : Np} {s : Ns} {l L : Nt} {ss : List Res} {rn : Nat} {vp : Value} {vt : Rn}
theorem nd_pfx {d : Ct} (h : NdIs B w0 W x s l (redR d.vv 2 d.vs.length (zan d.vs) :: redR d.vb 6 d.rs.length (zam d.rs) :: rnR rn vp vt L ss)) (hn : d.rs.length ≤ 100000) (hm : d.vs.length ≤ 100000) (fm : Int) :
  NdIs B w0 (W.alloc (ctO d.view d.inst d.seq d.vb d.vv)) x s l (mmR (pfX fm d (.slice (some ⟨W.heap.size, 0, none⟩) 1 1)) (rnR rn vp vt L (ctsR [d] :: ss))) := by
 have h1 : NdIs B w0 W x s l (rnR rn vp vt L (ctsR [d] :: ss)) := h.onSide (fun r hr => by
  have k1 : Own _ _ _ (ctsR [] :: _) := hr.mkCts (by simp)
  have k2 := k1.front 2 rfl rfl
  dsimp only [List.eraseIdx, List.cons_append] at k2
  have k3 := k2.front 2 rfl rfl
  dsimp only [List.eraseIdx, List.cons_append] at k3
  have k4 := zub k3 hn hm
  exact k4.perm ((List.perm_append_comm (l₁ := [_]) (l₂ := [_, _, _])).append_right _))
 exact h1.prf fm 3 rfl (by simp)
theorem ps_step {f i n : Nat} {id fm u st last k sl : Int} {cps : Nat → Cp} {bk : Lp} {out : List (Int × Bys)} {d : Ct} {v : Value}
  (h : NdIs B w0 W x (adS f id (dsP cps i) i bk out u st false) l (mmR (pfX fm d v) (rnR rn vp vt l ss))) (hf1 : 1 ≤ f) (hf2 : f ≤ 4) (h0 : 0 ≤ id) (h1 : id ≤ 3 * f) (hm0 : 0 ≤ fm) (hm1 : fm ≤ 3 * f) (hi : i < 16) (hb : BkPs n last bk) (hn : n ≤ i)
  (hc : CrtOk 5 f 2 l d.cp (addR k sl) d.vs) (hseq : d.seq = i + 1) (hinst : d.inst = 0) (hq : okReq (addR k sl) 2 = true) (hl : l.length ≤ 100000) (ho : out.length ≤ 1000) (hu0 : 0 ≤ u) (hu : u ≤ 1000) (hst0 : 0 ≤ st) (hst : st ≤ 1000) :
  Calls Tryz.prog 23 #[ptrV x.p, .agg (twA x.nt rn), .agg (mmA (pfX fm d v))] W fun e w' => e = .returned (.tuple #[]) ∧ ∃ (cps' : Nat → Cp) (bk' : Lp) (out' : List (Int × Bys)) (L' : Nt) (vp' : Value) (vt' : Rn), out'.length ≤ out.length + 1 ∧ BkPs (if last < k then n + 1 else n) (if last < k then k else last) bk' ∧ L'.length ≤ l.length + 17 ∧
   NdIs B w0 w' x (adS f id (dsP cps' (i + 1)) ((i + 1 : Nat) : Int) bk' out' (u + 1) st (decide (16 ≤ i + 1))) L' (rnR rn vp' vt' L' ss) := by
 have hsl := zdh l fm (pfB fm d.cp)
 obtain ⟨bk', o, L', e1, e2, e3, e4, e5, e6, e7⟩ := ps_give (fm := fm) (u := u) (st := st) (cps := cps) (out := out) (L := sealL l fm (pfB fm d.cp)) (c := d.cp) hf2 h0 h1 hi hseq hinst ((zjn l fm (pfB fm d.cp)).certified hc.cert) hc.rs hq hb hn (by omega)
 have hg := zu0 (f := f) (r := addR k sl) h rfl hf1 hf2 hm0 hm1 hc.rs hc.vl hc.w hc.ok rfl (by omega) (by show out.length ≤ _; omega) rfl rfl (by rw [e1]; show u ≤ _; omega) (by rw [e1]; show (0 : Int) ≤ _; omega) (by rw [e1]; show st ≤ _; omega) (by rw [e1]; show (0 : Int) ≤ _; omega) (by rw [e1]; show ([] : List Int).length ≤ _; simp)
 rw [e2] at hg
 refine hg.mono ?_
 rintro e w' ⟨he, vp', vt', h2⟩
 exact ⟨he, _, bk', out ++ o, L', vp', vt', by rw [List.length_append]; omega, e3, by omega, h2.more e6⟩
theorem add_good {k : Int} (h1 : 1 ≤ k) (h2 : k ≤ 1000) : RqGood 2 (addR k 0) := by
 refine ⟨?_, by omega⟩
 unfold okReq inW zbl addR
 simp
 omega
theorem ps_cert {f i n e16 q p : Nat} {id fm u st last k : Int} {cps : Nat → Cp} {bk : Lp} {out : List (Int × Bys)}
  (h : NdIs B w0 W x (adS f id (dsP cps i) i bk out u st false) l (blk e16 (rqO (addR k 0)) :: rnR rn vp vt l [blk (q + 1) (stdO f), blk q (twO x.nt rn)])) (hW : W' = W.alloc (rqO (addR k 0))) (hp : p = W.heap.size) (hf1 : 1 ≤ f) (hf2 : f ≤ 4) (h0 : 0 ≤ id) (h1 : id ≤ 3 * f) (hm0 : 0 ≤ fm) (hm1 : fm ≤ 3 * f) (hi : i < 16) (hb : BkPs n last bk) (hn : n ≤ i)
  (hk1 : 1 ≤ k) (hk2 : k ≤ 1000) (hl : l.length ≤ 50000) (ho : out.length ≤ 1000) (hu0 : 0 ≤ u) (hu : u ≤ 1000) (hst0 : 0 ≤ st) (hst : st ≤ 1000) :
  Calls Tryz.prog 20 #[.agg (twA x.nt rn), .int .i64 5, .int .i64 f, .int .i64 0, .agg #[.int .i64 0, .int .i64 0, .int .i64 ((i : Int) + 1), .slice (some ⟨p, 0, none⟩) 1 1, .slice none 0 0]] W' fun e w' => ∃ a1 c1 a2 c2, e = .returned (.agg #[.int .i64 0, .int .i64 0, .int .i64 ((i : Int) + 1), .slice a1 1 c1, .slice a2 (2 * f + 1) c2]) ∧
   (w'.cell? ⟨q, 0, none⟩ = some (.pointer (some ⟨x.nt, 0, none⟩)) ∧ w'.cell? ⟨q, 1, none⟩ = some (.pointer (some ⟨rn, 0, none⟩)) ∧ w'.cell? ⟨q + 1, 0, none⟩ = some (.int .i64 f) ∧ w'.cell? ⟨e16, 0, none⟩ = some (.int .i64 0) ∧ w'.cell? ⟨e16, 1, none⟩ = some (.int .i64 k) ∧ w'.cell? ⟨e16, 2, none⟩ = some (.int .i64 3) ∧ w'.cell? ⟨e16, 3, none⟩ = some (.int .i64 1) ∧ w'.cell? ⟨e16, 4, none⟩ = some (.int .i64 1) ∧ w'.cell? ⟨e16, 5, none⟩ = some (.int .i64 0)) ∧
   Calls Tryz.prog 23 #[ptrV x.p, .agg (twA x.nt rn), .agg #[.int .i64 9, .int .i64 fm, .int .i64 0, .int .i64 0, .int .i64 0, .int .i64 0, .slice none 0 0, .slice none 0 0, .slice (some ⟨w'.heap.size, 0, none⟩) 1 1, .slice none 0 0]] (w'.alloc (ctO 0 0 ((i : Int) + 1) (.slice a1 1 c1) (.slice a2 (2 * f + 1) c2))) fun e w2 => e = .returned (.tuple #[]) ∧
    ∃ (cps' : Nat → Cp) (bk' : Lp) (out' : List (Int × Bys)) (L' : Nt) (vp' : Value) (vt' : Rn), out'.length ≤ out.length + 1 ∧ BkPs (if last < k then n + 1 else n) (if last < k then k else last) bk' ∧ L'.length ≤ l.length + 40 ∧
     NdIs B w0 w2 x (adS f id (dsP cps' (i + 1)) ((i + 1 : Nat) : Int) bk' out' (u + 1) st (decide (16 ≤ i + 1))) L' (blk e16 (rqO (addR k 0)) :: rnR rn vp' vt' L' [blk (q + 1) (stdO f), blk q (twO x.nt rn)]) := by
 subst hW hp
 obtain ⟨rr, hs, hback⟩ := h.sideN
 have g1 := znj hs (addR k 0)
 have g2 := g1.front 6 rfl rfl
 dsimp only [List.eraseIdx, List.cons_append, List.nil_append, rnR] at g2
 have g3 := g2.front 6 rfl rfl
 dsimp only [List.eraseIdx] at g3
 have g4 := g3.front 6 rfl rfl
 dsimp only [List.eraseIdx] at g4
 have g5 := g4.front 5 rfl rfl
 dsimp only [List.eraseIdx] at g5
 have g6 := g5.front 5 rfl rfl
 dsimp only [List.eraseIdx] at g6
 have hgd := add_good hk1 hk2
 have hnk := crt_nok (kind := 5) (skip := 0) (view := 0) (inst := 0) (seq := (i : Int) + 1) (r := addR k 0) h.nok hf2
 have hok := crt_ok (kind := 5) (f := f) (skip := 0) (l := l) (view := 0) (inst := 0) (seq := (i : Int) + 1) hgd (by omega) hf1 hf2 (by omega) (by omega) (by omega) (by omega) (by omega) (by omega) (by omega) (by omega)
 have hpx := zxq 5 f 0 l 0 0 ((i : Int) + 1) (addR k 0)
 have hrs := zxo (l := l) hgd (by omega)
 obtain ⟨sl, hsl⟩ : ∃ sl, rqS l (addR k 0) = addR k sl := by
  unfold rqS
  split
  ·exact ⟨_, rfl⟩
  ·exact ⟨_, rfl⟩
 refine (zoa (kind := 5) (skip := 0) (view := 0) (inst := 0) (seq := (i : Int) + 1) g6 h.nok (by omega) hf1 hf2).mono ?_
 rintro e w5 ⟨a1, c1, a2, c2, vp', vt', rfl, j1⟩
 have hcp : ∀ a1 c1 a2 c2, Ct.cp ⟨0, 0, (i : Int) + 1, .slice a1 1 c1, .slice a2 (2 * f + 1) c2, [rqS l (addR k 0)], (crtP 5 f 0 l 0 0 ((i : Int) + 1) (addR k 0)).1.vs⟩ = (crtP 5 f 0 l 0 0 ((i : Int) + 1) (addR k 0)).1 := fun _ _ _ _ => rfl
 generalize crtP 5 f 0 l 0 0 ((i : Int) + 1) (addR k 0) = P at *
 obtain ⟨c, l'⟩ := P
 rw [hsl] at hok hrs j1 hcp
 simp only at hok hpx hnk j1 hcp
 have j2 := j1.dropAt 7 (by simp)
 dsimp only [List.eraseIdx] at j2
 have j3 := j2.front 3 rfl rfl
 dsimp only [List.eraseIdx] at j3
 have j4 := j3.front 3 rfl rfl
 dsimp only [List.eraseIdx] at j4
 have h5 := hback w5 l' (redR (.slice a2 (2 * f + 1) c2) 2 (2 * f + 1) (zan c.vs) :: batR (.slice a1 1 c1) [addR k sl] :: rnR rn vp' vt' l' [blk e16 (rqO (addR k 0)), blk (q + 1) (stdO f), blk q (twO x.nt rn)]) hnk j4
 obtain ⟨r5, hs5, -⟩ := h5.side
 have b16 := hs5.blkAt 5 rfl
 have bq1 := hs5.blkAt 6 rfl
 have bq := hs5.blkAt 7 rfl
 have hd := hcp a1 c1 a2 c2
 have hvl : c.vs.length = 2 * f + 1 := hok.vl
 generalize hdd : (⟨0, 0, (i : Int) + 1, .slice a1 1 c1, .slice a2 (2 * f + 1) c2, [addR k sl], c.vs⟩ : Ct) = d at hd
 have h6 := nd_pfx (d := d) (L := l') (s := adS f id (dsP cps i) i bk out u st false) (l := l') (by
  subst hdd
  show NdIs _ _ _ _ _ _ (redR (.slice a2 (2 * f + 1) c2) 2 c.vs.length (zan c.vs) :: batR (.slice a1 1 c1) [addR k sl] :: rnR rn vp' vt' l' _)
  rw [hvl]
  exact h5) (by subst hdd; simp) (by subst hdd; show c.vs.length ≤ _; omega) fm
 have hst := ps_step h6 hf1 hf2 h0 h1 hm0 hm1 hi hb hn (k := k) (sl := sl) (by
  rw [hd]
  have := hok
  subst hdd
  exact hok) (by subst hdd; rfl) (by subst hdd; rfl) hrs.1.ok (by omega) ho hu0 hu hst0 hst
 refine ⟨a1, c1, a2, c2, rfl, ⟨zaa bq 0 rfl, zaa bq 1 rfl, zaa bq1 0 rfl, zaa b16 0 rfl, zaa b16 1 rfl, zaa b16 2 rfl, zaa b16 3 rfl, zaa b16 4 rfl, zaa b16 5 rfl⟩, ?_⟩
 subst hdd
 refine hst.mono ?_
 rintro e w2 ⟨he, cps', bk', out', L', vp2, vt2, k1, k2, k3, h7⟩
 refine ⟨he, cps', bk', out', L', vp2, vt2, k1, k2, by omega, ?_⟩
 refine h7.onSide (fun r hr => ?_)
 have k5 : Own B w0 w2 (rnR rn vp2 vt2 L' (ctsR _ :: blk e16 (rqO (addR k 0)) :: ([blk (q + 1) (stdO f), blk q (twO x.nt rn)] ++ [r]))) := hr
 have k6 := k5.dropAt 3 (by simp)
 dsimp only [List.eraseIdx] at k6
 exact k6.perm ((List.perm_append_comm (l₁ := [_, _, _]) (l₂ := [_])).append_right _)
end
theorem ad9 {w : World} {q e : Nat} {ob : Obj} {c0 c1 c2 c3 c4 c5 c6 c7 c8 : Value} (h : w.cell? ⟨q, 0, none⟩ = some c0 ∧ w.cell? ⟨q, 1, none⟩ = some c1 ∧ w.cell? ⟨q + 1, 0, none⟩ = some c2 ∧ w.cell? ⟨e, 0, none⟩ = some c3 ∧ w.cell? ⟨e, 1, none⟩ = some c4 ∧ w.cell? ⟨e, 2, none⟩ = some c5 ∧ w.cell? ⟨e, 3, none⟩ = some c6 ∧ w.cell? ⟨e, 4, none⟩ = some c7 ∧ w.cell? ⟨e, 5, none⟩ = some c8) :
  (w.alloc ob).cell? ⟨q, 0, none⟩ = some c0 ∧ (w.alloc ob).cell? ⟨q, 1, none⟩ = some c1 ∧ (w.alloc ob).cell? ⟨q + 1, 0, none⟩ = some c2 ∧ (w.alloc ob).cell? ⟨e, 0, none⟩ = some c3 ∧ (w.alloc ob).cell? ⟨e, 1, none⟩ = some c4 ∧ (w.alloc ob).cell? ⟨e, 2, none⟩ = some c5 ∧ (w.alloc ob).cell? ⟨e, 3, none⟩ = some c6 ∧ (w.alloc ob).cell? ⟨e, 4, none⟩ = some c7 ∧ (w.alloc ob).cell? ⟨e, 5, none⟩ = some c8 :=
 ⟨zaf h.1, zaf h.2.1, zaf h.2.2.1, zaf h.2.2.2.1, zaf h.2.2.2.2.1, zaf h.2.2.2.2.2.1, zaf h.2.2.2.2.2.2.1, zaf h.2.2.2.2.2.2.2.1, zaf h.2.2.2.2.2.2.2.2⟩
theorem ad9d {w : World} {q e : Nat} {ob : Obj} {c0 c1 c2 c3 c4 c5 c6 c7 c8 : Value} (h : w.drew.cell? ⟨q, 0, none⟩ = some c0 ∧ w.drew.cell? ⟨q, 1, none⟩ = some c1 ∧ w.drew.cell? ⟨q + 1, 0, none⟩ = some c2 ∧ w.drew.cell? ⟨e, 0, none⟩ = some c3 ∧ w.drew.cell? ⟨e, 1, none⟩ = some c4 ∧ w.drew.cell? ⟨e, 2, none⟩ = some c5 ∧ w.drew.cell? ⟨e, 3, none⟩ = some c6 ∧ w.drew.cell? ⟨e, 4, none⟩ = some c7 ∧ w.drew.cell? ⟨e, 5, none⟩ = some c8) :
  (w.alloc ob).drew.cell? ⟨q, 0, none⟩ = some c0 ∧ (w.alloc ob).drew.cell? ⟨q, 1, none⟩ = some c1 ∧ (w.alloc ob).drew.cell? ⟨q + 1, 0, none⟩ = some c2 ∧ (w.alloc ob).drew.cell? ⟨e, 0, none⟩ = some c3 ∧ (w.alloc ob).drew.cell? ⟨e, 1, none⟩ = some c4 ∧ (w.alloc ob).drew.cell? ⟨e, 2, none⟩ = some c5 ∧ (w.alloc ob).drew.cell? ⟨e, 3, none⟩ = some c6 ∧ (w.alloc ob).drew.cell? ⟨e, 4, none⟩ = some c7 ∧ (w.alloc ob).drew.cell? ⟨e, 5, none⟩ = some c8 := ad9 (w := w) h
theorem ps_cells {B : Nat} {w0 W : World} {x : Np} {s : Ns} {l L : Nt} {rn e16 q f : Nat} {vp : Value} {vt : Rn} {k : Int} (h : NdIs B w0 W x s l (blk e16 (rqO (addR k 0)) :: rnR rn vp vt L [blk (q + 1) (stdO f), blk q (twO x.nt rn)])) :
  W.cell? ⟨q, 0, none⟩ = some (.pointer (some ⟨x.nt, 0, none⟩)) ∧ W.cell? ⟨q, 1, none⟩ = some (.pointer (some ⟨rn, 0, none⟩)) ∧ W.cell? ⟨q + 1, 0, none⟩ = some (.int .i64 f) ∧ W.cell? ⟨e16, 0, none⟩ = some (.int .i64 0) ∧ W.cell? ⟨e16, 1, none⟩ = some (.int .i64 k) ∧ W.cell? ⟨e16, 2, none⟩ = some (.int .i64 3) ∧ W.cell? ⟨e16, 3, none⟩ = some (.int .i64 1) ∧ W.cell? ⟨e16, 4, none⟩ = some (.int .i64 1) ∧ W.cell? ⟨e16, 5, none⟩ = some (.int .i64 0) := by
 obtain ⟨r, hs, -⟩ := h.side
 have b16 := hs.blkAt 0 rfl
 have bq1 := hs.blkAt 4 rfl
 have bq := hs.blkAt 5 rfl
 exact ⟨zaa bq 0 rfl, zaa bq 1 rfl, zaa bq1 0 rfl, zaa b16 0 rfl, zaa b16 1 rfl, zaa b16 2 rfl, zaa b16 3 rfl, zaa b16 4 rfl, zaa b16 5 rfl⟩
section
variable {B : Nat} {w0 W : World} {x : Np} {l : Nt} {ss : List Res} {f : Nat} {id n u st : Int} {ds : List (Option Cp)} {bk : Lp} {o : List (Int × Bys)} {sp : Bool}
end
section
variable {B : Nat} {w0 w W W' : World} {ss rs : List Res} {x : Np} {s s' : Ns} {l l' : Nt}
abbrev cntA (s : Ns) : Array Value := #[.int .i64 s.used, .int .i64 s.bad, .int .i64 s.stale, .int .i64 s.shut, .int .i64 s.full]
theorem ncounts_any (h : NdIs B w0 W x s l ss) : Calls Tryz.prog 47 #[ptrV x.p] W fun e w' => e = .returned (.agg (cntA s)) ∧ Upd [] W w' := by
 have ha := h.alloc (.cells #[.int .i64 0, .int .i64 0, .int .i64 0, .int .i64 0, .int .i64 0] 95 (0, 0))
 have c0 := ha.cell 35 rfl (by decide)
 have c1 := ha.cell 36 rfl (by decide)
 have c2 := ha.cell 37 rfl (by decide)
 have c3 := ha.cell 38 rfl (by decide)
 have c4 := ha.cell 39 rfl (by decide)
 clear ha
 clear h
 go_enter Tryz.func47, Tryz.ntmps47
 go_wp2_with fail
 refine bodyPost_ret (v := .agg (cntA s)) (by simp [results, Tryz.results47, go_sem]) rfl ⟨rfl, (Upd.refl _ _).alloc _⟩
theorem nstopped_any (h : NdIs B w0 W x s l ss) : Calls Tryz.prog 52 #[ptrV x.p] W fun e w' => e = .returned (.bool s.stop) ∧ W = w' := by
 have c := h.cell 33 rfl (by decide)
 clear h
 go_enter Tryz.func52, Tryz.ntmps52
 go_wp2_with fail
 go_ret
 exact ⟨rfl, rfl⟩
theorem ntick_stop (h : NdIs B w0 W x s l ss) (hst : s.stop = true) : Calls Tryz.prog 33 #[ptrV x.p] W fun e w' => e = .returned (.tuple #[]) ∧ W = w' := by
 have c : W.cell? ⟨x.p, 33, none⟩ = some (.bool true) := by have := h.cell 33 rfl (by decide); rw [hst] at this; exact this
 clear h
 go_enter Tryz.func33, Tryz.ntmps33
 go_wp2_with fail
 exact bodyPost_ret (v := .tuple #[]) (by simp [results, Tryz.results33, go_sem]) rfl ⟨rfl, rfl⟩
theorem nTake_stop {src : Int} {bv : Value} (h : NdIs B w0 W x s l ss) (hst : s.stop = true) (h0 : 0 ≤ s.shut) (h1 : s.shut ≤ 1000000000000) : Calls Tryz.prog 34 #[ptrV x.p, .int .i64 src, bv] W fun e w' => e = .returned (.tuple #[]) ∧ NdIs B w0 w' x { s with shut := s.shut + 1 } l ss := by
 have c33 : W.cell? ⟨x.p, 33, none⟩ = some (.bool true) := by have := h.cell 33 rfl (by decide); rw [hst] at this; exact this
 have H := Lib.hid h
 clear h
 go_enter Tryz.func34, Tryz.ntmps34
 go_upto_region 0 with fail
 go_quiet (fail)
 have H1 := Lib.hid (H.out.drewN nq)
 have c38 := H1.out.cell 38 rfl (by decide)
 have z38 := H1.out.fz 38
 have HF := Lib.hid (H1.out.putShut (s.shut + 1) (by omega))
 clear H c33
 have hwS : IntKind.i64.wrap (s.shut + 1) = s.shut + 1 := IntWalk.i64_in _ ⟨by omega, by omega⟩
 go_wp2_with fail
 exact bodyPost_ret (v := .tuple #[]) (by simp [results, Tryz.results34, go_sem]) rfl ⟨rfl, HF.out⟩
end
theorem eGo_has (view : Int) (q : Nat) : ∀ (l : List Vo) (i : Nat) (acc : Vs), (eGo view q l i acc).length ≤ acc.length + l.countP (fun x => x.has)
 | [], i, acc => by simp [eGo]
 | x :: l, i, acc => by
  unfold eGo
  have := eGo_has view q l (i + 1) (if x.has && (x.view == view) && decide (acc.length < q) then acc ++ [((i : Int), x.sl)] else acc)
  rw [List.countP_cons]
  refine Nat.le_trans this ?_
  cases hx : x.has with
  | false => simp
  | true =>
   simp only [Bool.true_and, if_true]
   split
   ·rw [List.length_append]; simp; omega
   ·omega
theorem one_has (x : Vo) : ∀ (n k : Nat), ((List.replicate n noVo).set k x).countP (fun x => x.has) ≤ 1
 | 0, k => by simp
 | n + 1, 0 => by
  rw [List.replicate_succ, List.set_cons_zero, List.countP_cons]
  have : (List.replicate n noVo).countP (fun x => x.has) = 0 := by
   rw [List.countP_eq_zero]
   intro y hy
   rw [List.eq_of_mem_replicate hy]
   simp [noVo]
  rw [this]
  split <;> omega
 | n + 1, k + 1 => by
  rw [List.replicate_succ, List.set_cons_succ, List.countP_cons]
  have := one_has x n k
  simpa [noVo] using this
section
variable {B : Nat} {w0 w W W' : World} {ss rs : List Res} {x : Np} {s s' : Ns} {l L : Nt} {rn : Nat} {vp : Value} {vt : Rn}
theorem give_stop {i v : Int} (h : NdIs B w0 W x s l (rnR rn vp vt l ss)) (hi0 : 0 ≤ i) (hi1 : i ≤ 100) (h0 : 0 ≤ v) (h1 : v ≤ 11) (hn : l.length ≤ 1000000000) (hst : s.stop = true) (hs0 : 0 ≤ s.shut) (hs1 : s.shut ≤ 1000000000000) :
  Calls Tryz.prog 23 #[ptrV x.p, .agg (twA x.nt rn), .agg (mmA (chgMm i v))] W fun e w' => e = .returned (.tuple #[]) ∧ ∃ vp' vt', NdIs B w0 w' x { s with shut := s.shut + 1 } (sealL l i (chgB i v)) (rnR rn vp' vt' (sealL l i (chgB i v)) ss) := by
 have hbd2 := chg_body (i := i) (v := v) hi0 hi1 h0 (by omega)
 have key := give_nd (P := ({ s with shut := s.shut + 1 }, sealL l i (chgB i v))) (h.chg i v) ⟨by simp [chgMm], by simp [chgMm], by simp [chgMm], by simp [chgMm]⟩ hn (by show -9223372036854775808 ≤ i; omega) (by show i ≤ 9223372036854775807; omega) hbd2 (fun w1 ev vp' vt' h2 => nTake_stop h2 hst hs0 hs1)
 exact key.mono (fun e w' ⟨he, vp', vt', h6⟩ => ⟨he, vp', vt', zpx (h6.perm ((List.perm_append_comm (l₁ := [_, _, _]) (l₂ := [_, _, _, _, _, _])).append_right ss))⟩)
theorem give_vote {f : Nat} {i v : Int} (h : NdIs B w0 W x s l (rnR rn vp vt l ss)) (hf : s.c.f = f) (hf1 : 1 ≤ f) (hf2 : f ≤ 4) (hi0 : 0 ≤ i) (hi1 : i ≤ 3 * f) (h0 : 0 ≤ v) (h1 : v ≤ 11) (hn : l.length ≤ 100000) (hst : s.stop = false) (hgd : s.gd = []) (hvw : s.view ≤ v) (hvo : s.vo = List.replicate (3 * f + 1) noVo) (ho : s.out.length ≤ 1000)
  (hu : s.used ≤ 100000) (hbd : s.bad ≤ 100000) (hsl : s.stale ≤ 100000) (hfu : s.full ≤ 100000) :
  Calls Tryz.prog 23 #[ptrV x.p, .agg (twA x.nt rn), .agg (mmA (chgMm i v))] W fun e w' => e = .returned (.tuple #[]) ∧ ∃ vp' vt' vo', NdIs B w0 w' x { s with vo := vo', used := s.used + 1 } (sealL l i (chgB i v)) (rnR rn vp' vt' (sealL l i (chgB i v)) ss) := by
 have hbd2 := chg_body (i := i) (v := v) hi0 (by omega) h0 (by omega)
 have hsl2 := zdh l i (chgB i v)
 have hgb := zri (l := l) hbd2 (chg_len i v) (by omega)
 have hput : putB s.vo i v = true := by
  unfold putB
  rw [hvo]
  have : (voAt (List.replicate (3 * f + 1) noVo) i.toNat).has = false := by
   unfold voAt
   simp only [List.getD_eq_getElem?_getD, List.getElem?_replicate]
   split <;> rfl
  rw [this]
  simp
  omega
 have hen : (zot (putV i v (sealN l i (chgB i v)) s).vo v (2 * s.c.f + 1)).length ≠ 2 * s.c.f + 1 := by
  unfold putV putL
  rw [hput, if_pos rfl]
  simp only [hvo, hf]
  have a := eGo_has v (2 * f + 1) ((List.replicate (3 * f + 1) noVo).set i.toNat ⟨true, v, sealN l i (chgB i v)⟩) 0 []
  have b := one_has ⟨true, v, sealN l i (chgB i v)⟩ (3 * f + 1) i.toNat
  unfold zot
  simp only [List.length_nil] at a
  omega
 have key := give_nd (P := zg1 i (0, (putV i v (sealN l i (chgB i v)) s, sealL l i (chgB i v)))) (h.chg i v) ⟨by simp [chgMm], by simp [chgMm], by simp [chgMm], by simp [chgMm]⟩ (by omega) (by show -9223372036854775808 ≤ i; omega) (by show i ≤ 9223372036854775807; omega) hbd2 (fun w1 ev vp' vt' h2 => by
  replace h2 : NdIs B w0 w1 x s (sealL l i (chgB i v)) (bysR ev (givE l i (chgB i v)) :: rnR rn vp' vt' (sealL l i (chgB i v)) (mmR (chgMm i v) ss)) := h2
  have hop : openP (sealL l i (chgB i v)) s.c.f s.c.cl (givE l i (chgB i v)) = some (chgQ i v, sealN l i (chgB i v)) := chg_open (by omega) (by omega) hi0 (by omega) h0 h1
  obtain ⟨r, hs, -⟩ := h2.side
  have hrd : RdOk w0 B ev (givE l i (chgB i v)) _ := rd_bys hs (by simp) (fun q hq => List.mem_append_left _ hq) hgb.1 hgb.2
  refine zqk (m := chgQ i v) (sl := sealN l i (chgB i v)) (v := 0) (p := (putV i v (sealN l i (chgB i v)) s, sealL l i (chgB i v))) h2 hrd hst (by rw [hgd]; simp) (by rw [hgd]; rfl) hop (fun mm hmm => ntake_chg (congrArg Ms.kind hmm) (fun W2 ss2 h3 => ?_)) (.inl rfl) (by show s.gd.length ≤ _; rw [hgd]; simp) (by show s.used ≤ _; omega) (by show s.bad ≤ _; omega) (by show s.stale ≤ _; omega) (by show s.full ≤ _; omega)
  have e1 : mm.fm = i := congrArg Ms.fm hmm
  have e2 : mm.view = v := congrArg Ms.view hmm
  have e4 := nchange_one (sl := sealN l i (chgB i v)) h3 (by rw [e2]; omega) (by rw [e1, e2]; exact hput) (by rw [e1, e2]; exact hen)
  rw [e1, e2] at e4
  exact e4)
 exact key.mono (fun e w' ⟨he, vp', vt', h6⟩ => ⟨he, vp', vt', _, zpx (h6.perm ((List.perm_append_comm (l₁ := [_, _, _]) (l₂ := [_, _, _, _, _, _])).append_right ss))⟩)
end
section
variable {B : Nat} {w0 W : World} {x : Np} {s : Ns} {l : Nt} {ss : List Res}
theorem nd_len {y : Lg} {m : Nat} (h : NdIs B w0 W x s l (lgL y ++ ss)) (e : y.lp = s.bk) (hm : s.bk.es.length = m) : Calls Tryz.prog 50 #[ptrV y.p] W fun e w' => e = .returned (.int .i64 m) ∧ W = w' := by
 obtain ⟨r, hs, -⟩ := h.side
 have h1 := zpk (y := y) (ss := ss ++ [r]) (by simpa [List.append_assoc] using hs)
 have h2 : y.es.length = m := by rw [← hm, ← e]; rfl
 rw [h2] at h1
 exact h1
theorem ad_counts {f : Nat} {id n u st : Int} {ds : List (Option Cp)} {bk : Lp} {o : List (Int × Bys)} {sp : Bool} (h : NdIs B w0 W x (adS f id ds n bk o u st sp) l ss) : Calls Tryz.prog 47 #[ptrV x.p] W fun e w' => e = .returned (.agg #[.int .i64 u, .int .i64 0, .int .i64 st, .int .i64 0, .int .i64 0]) ∧ Upd [] W w' := ncounts_any h
abbrev cnO (u st sh : Int) : Obj := .cells #[.int .i64 u, .int .i64 0, .int .i64 st, .int .i64 sh, .int .i64 0] 95 (0, 0)
theorem st_run {f : Nat} {id n u st : Int} {ds : List (Option Cp)} {bk : Lp} {vo' : List Vo} (h : NdIs B w0 W x { adS f id ds n bk [] u st false with vo := vo', used := u + 1 } l ss) :
  Calls Tryz.prog 47 #[ptrV x.p] W (fun e w' => e = .returned (.agg #[.int .i64 (u + 1), .int .i64 0, .int .i64 st, .int .i64 0, .int .i64 0]) ∧ Upd [] W w') ∧
   Calls Tryz.prog 52 #[ptrV x.p] W (fun e w' => e = .returned (.bool false) ∧ W = w') ∧
   Calls Tryz.prog 49 #[ptrV x.p] W (fun e w' => ∃ y : Lg, e = .returned (ptrV y.p) ∧ LgOk y ∧ y.lp = bk ∧ NdIs B w0 w' x { adS f id ds n bk [] u st false with vo := vo', used := u + 1 } l (lgL y ++ ss)) := ⟨ncounts_any h, nstopped_any h, zng h⟩
theorem st_shut {f : Nat} {id n u st sh : Int} {ds : List (Option Cp)} {bk : Lp} (h : NdIs B w0 W x { adS f id ds n bk [] u st true with shut := sh } l ss) :
  Calls Tryz.prog 47 #[ptrV x.p] W (fun e w' => e = .returned (.agg #[.int .i64 u, .int .i64 0, .int .i64 st, .int .i64 sh, .int .i64 0]) ∧ Upd [] W w') ∧
   Calls Tryz.prog 52 #[ptrV x.p] W (fun e w' => e = .returned (.bool true) ∧ W = w') ∧
   Calls Tryz.prog 33 #[ptrV x.p] W (fun e w' => e = .returned (.tuple #[]) ∧ W = w') ∧
   Calls Tryz.prog 49 #[ptrV x.p] W (fun e w' => ∃ y : Lg, e = .returned (ptrV y.p) ∧ LgOk y ∧ y.lp = bk ∧ NdIs B w0 w' x { adS f id ds n bk [] u st true with shut := sh } l (lgL y ++ ss)) := ⟨ncounts_any h, nstopped_any h, ntick_stop h rfl, zng h⟩
theorem st_out {f : Nat} {id n u st sh : Int} {ds : List (Option Cp)} {bk : Lp} (h : NdIs B w0 W x { adS f id ds n bk [] u st true with shut := sh } l ss) :
  Calls Tryz.prog 26 #[ptrV x.p] W fun e w' => ∃ (a : Option Addr) (k : Nat), e = .returned (.slice a 0 k) ∧ NdIs B w0 w' x { adS f id ds n bk [] u st true with shut := sh } l ss := by
 refine (zv7 h).mono ?_
 rintro e w' ⟨a, k, os, rfl, hos, h1⟩
 obtain rfl : os = [] := List.map_eq_nil_iff.1 hos
 exact ⟨a, k, rfl, h1.drop.drop⟩
end
theorem stops_any (a0 a1 a2 : Int) (W : World) :
  Calls Tryz.prog 10 #[.int .i64 a0, .int .i64 a1, .int .i64 a2] W fun e w' => e = .returned (.bool true) ∧ Upd [] W w' := by
 have hm0 := zhh a0 4 (by omega)
 obtain ⟨f, hf⟩ : ∃ f : Nat, 1 + a0 % 4 = f := ⟨(1 + a0 % 4).toNat, by omega⟩
 have hf1 : 1 ≤ f := by omega
 have hf2 : f ≤ 4 := by omega
 have hf1I : 1 ≤ (f : Int) := by omega
 have hf2I : (f : Int) ≤ 4 := by omega
 have HST := Lib.hid (zr6 a0 a1 f hf1 hf2 hf (Own.start (Below.refl W.heap.size W) (Nat.le_refl _)))
 have hm1 := zhh a1 (3 * (f : Int) + 1) (by omega)
 have HW1 := Lib.hid (fun w => zdn a1 (3 * (f : Int) + 1) w (by omega) (by omega))
 generalize a1 % (3 * (f : Int) + 1) = id at *
 have HNo := Lib.hid (fun w => zf8 (f : Int) w hf1I hf2I)
 have HW3 := Lib.hid (fun w => zdn a2 3 w (by omega) (by omega))
 have hm3 := zhh a2 3 (by omega)
 generalize a2 % 3 = v3 at *
 clear hf hm0
 go_enter Tryz.func10, Tryz.ntmps10
 go_wp2_with fail
 refine HST.out.mono ?_
 rintro e w1 ⟨x, rn, rfl, h1⟩
 have H2 := Lib.hid ((h1.box (twO x.nt rn)).box (stdO f))
 clear h1 HST
 go_upto_region 4 with fail
 generalize World.alloc (World.alloc w1 _) _ = w2 at *
 simp only [za4] at H2
 generalize w1.heap.size = q at *
 have H3 : Hid (NdIs W.heap.size W w2 x (newS (stdC f) id) [] (rnR rn (.slice none 0 0) ⟨.slice none 0 0, []⟩ [] [blk (q + 1) (stdO f), blk q (twO x.nt rn)])) := Lib.hid (H2.out.perm ((List.perm_append_comm (l₁ := [_, _]) (l₂ := [_, _, _])).append_right []))
 clear H2
 obtain ⟨fm, hfm⟩ : ∃ fm : Int, (id + 1) % (3 * (f : Int) + 1) = fm := ⟨_, rfl⟩
 have hfm2 := zhh (id + 1) (3 * (f : Int) + 1) (by omega)
 rw [hfm] at hfm2
 have hi1 : id + 1 ≤ 9223372036854775807 := by omega
 have hi9 : 0 ≤ id := hm1.1
 have hfm0 : 0 ≤ fm := hfm2.1
 have hfm9 : fm ≤ 100 := by omega
 have hdv : 3 * (f : Int) + 1 ≠ 0 := by omega
 have htm : (IntKind.i64.wrap (id + 1)).tmod (3 * (f : Int) + 1) = fm := by rw [IntWalk.i64_in (id + 1) ⟨by omega, by omega⟩, ← hfm]; exact Int.tmod_eq_emod_of_nonneg (by omega)
 obtain ⟨r2, hs2, -⟩ := H3.out.side
 have d0 : w2.drew.cell? ⟨q + 1, 0, none⟩ = some (.int .i64 f) := zaa (hs2.blkAt 3 rfl) 0 rfl
 clear hs2
 go_cut [11] (fun t wx => t = .int .i64 fm ∧ Hid (NdIs W.heap.size W wx x (newS (stdC f) id) [] (rnR rn (.slice none 0 0) ⟨.slice none 0 0, []⟩ [] [blk (q + 1) (stdO f), blk q (twO x.nt rn)])))
 case first =>
  go_region_held3 (fun w' => w'.cell? ⟨q + 1, 0, none⟩ = some (.int .i64 f))
   (with_reducible exact d0)
   (first
    | (go_at_call 17; refine (HNo.out _).mono ?_; rintro e w' ⟨rfl, rfl⟩)
    | (go_at_call 16; refine (HW1.out _).mono ?_; rintro e w' ⟨rfl, rfl⟩))
  go_wp2_with fail
  go_meet
  exact ⟨by first | rfl | rw [htm], Lib.hid H3.out.drew⟩
 case rest =>
  obtain ⟨rfl, H4⟩ := hcut
  clear d0 H3 htm hdv
  have H5 : Hid (NdIs W.heap.size W wc x (adS f id (dsP (fun _ => noCp) 0) (0 : Nat) (newS (stdC f) id).bk [] (0 : Nat) 0 false) [] (rnR rn (.slice none 0 0) ⟨.slice none 0 0, []⟩ [] [blk (q + 1) (stdO f), blk q (twO x.nt rn)])) := Lib.hid (by
   rw [dsP_nil]
   exact (ad_new (f := f) (id := id)).symm ▸ H4.out)
  have HBN := Lib.hid (bkPs_new f id)
  clear H4
  obtain ⟨N, hN⟩ : ∃ N : Nat, 16 - v3 = (N : Int) := ⟨(16 - v3).toNat, by omega⟩
  have hN14 : 14 ≤ N := by omega
  have hN16 : N ≤ 16 := by omega
  have hNI : (N : Int) ≤ 16 := by omega
  have hv3 : v3 ≤ 2 := by omega
  have hv0 : 0 ≤ v3 := hm3.1
  go_wp2_with fail
  refine (HW3.out _).mono ?_
  rintro e w' ⟨rfl, rfl⟩
  clear HW3
  go_upto_block 0 with fail
  go_cut [12] (fun _ wx => ∃ (cps : Nat → Cp) (bk : Lp) (out : List (Int × Bys)) (L : Nt) (vp : Value) (vt : Rn), Hid (L.length ≤ 1000) ∧ Hid (out.length ≤ 100) ∧ Hid (BkPs N (N : Int) bk) ∧ Hid (NdIs W.heap.size W wx x (adS f id (dsP cps N) N bk out (N : Nat) 0 (decide (16 ≤ N))) L (rnR rn vp vt L [blk (q + 1) (stdO f), blk q (twO x.nt rn)])))
  case first =>
   go_wp2_with fail
   go_loopw [12] (fun iv wr => ∃ (j : Nat) (cps : Nat → Cp) (bk : Lp) (out : List (Int × Bys)) (L : Nt) (vp : Value) (vt : Rn), iv = .int .i64 ((j : Int) + 1) ∧ j ≤ N ∧ L.length ≤ 50 * j ∧ out.length ≤ j ∧ Hid (BkPs j (j : Int) bk) ∧ Hid (NdIs W.heap.size W wr x (adS f id (dsP cps j) j bk out (j : Nat) 0 (decide (16 ≤ j))) L (rnR rn vp vt L [blk (q + 1) (stdO f), blk q (twO x.nt rn)]))) (fun iv _ => 20 - (intOf iv).toNat)
   case atStart => exact ⟨0, _, _, [], [], _, _, rfl, by omega, by simp, by simp, HBN, H5⟩
   case round =>
    clear H5 HBN
    obtain ⟨j, cps, bk, out, L, vp, vt, rfl, hjN, hLl, hol, HB, H⟩ := hrel
    have hj0 : (0 : Int) ≤ (j : Int) := by omega
    by_cases hlt : j < N
    ·have hltI : (j : Int) + 1 ≤ (N : Int) := by omega
     have H0 : Hid (NdIs W.heap.size W wr x (adS f id (dsP cps j) j bk out (j : Nat) 0 false) L (rnR rn vp vt L [blk (q + 1) (stdO f), blk q (twO x.nt rn)])) := by
      have := H
      rw [show decide (16 ≤ j) = false from decide_eq_false (by omega)] at this
      exact this
     clear H
     go_upto_region 10 with fail
     have H1 : Hid (NdIs W.heap.size W (wr.alloc (rqO (addR ((j : Int) + 1) 0))) x (adS f id (dsP cps j) j bk out (j : Nat) 0 false) L (blk wr.heap.size (rqO (addR ((j : Int) + 1) 0)) :: rnR rn vp vt L [blk (q + 1) (stdO f), blk q (twO x.nt rn)])) := Lib.hid (H0.out.box _)
     clear H0
     generalize hw4 : wr.alloc (rqO (addR ((j : Int) + 1) 0)) = w4 at H1
     have hw4' : wr.alloc (.cells #[.int .i64 0, .int .i64 ((j : Int) + 1), .int .i64 3, .int .i64 1, .int .i64 1, .int .i64 0] 38) = w4 := hw4
     rw [hw4']
     clear hw4 hw4'
     generalize wr.heap.size = e16 at *
     have d0 : w4.drew.cell? ⟨q, 0, none⟩ = some (.pointer (some ⟨x.nt, 0, none⟩)) ∧ w4.drew.cell? ⟨q, 1, none⟩ = some (.pointer (some ⟨rn, 0, none⟩)) ∧ w4.drew.cell? ⟨q + 1, 0, none⟩ = some (.int .i64 f) ∧ w4.drew.cell? ⟨e16, 0, none⟩ = some (.int .i64 0) ∧ w4.drew.cell? ⟨e16, 1, none⟩ = some (.int .i64 ((j : Int) + 1)) ∧ w4.drew.cell? ⟨e16, 2, none⟩ = some (.int .i64 3) ∧ w4.drew.cell? ⟨e16, 3, none⟩ = some (.int .i64 1) ∧ w4.drew.cell? ⟨e16, 4, none⟩ = some (.int .i64 1) ∧ w4.drew.cell? ⟨e16, 5, none⟩ = some (.int .i64 0) := ps_cells H1.out.drew
     have HC := Lib.hid (ps_cert (W := w4.drew) (W' := (w4.alloc (.cells #[.int .i64 0, .int .i64 ((j : Int) + 1), .int .i64 3, .int .i64 1, .int .i64 1, .int .i64 0] 38 (0, 0))).drew) (p := w4.heap.size) (fm := fm) (k := (j : Int) + 1) H1.out.drew rfl rfl hf1 hf2 hm1.1 (by omega) hfm0 (by omega) (by omega) HB.out (Nat.le_refl _) (by omega) (by omega) (by omega) (by omega) (by omega) (by omega) (by omega) (by omega))
     rw [if_pos (show (j : Int) < (j : Int) + 1 by omega), if_pos (show (j : Int) < (j : Int) + 1 by omega)] at HC
     have HLL : Hid (L.length + 40 ≤ 50 * (j + 1)) := Lib.hid (by omega)
     have HOL : Hid (out.length + 1 ≤ j + 1) := Lib.hid (by omega)
     clear H1 HB hLl hol
     have hiB : (j : Int) + 1 + 1 ≤ 9223372036854775807 := by omega
     have HJ : Hid (j < N) := Lib.hid hlt
     go_region_held3 (fun w' => w'.cell? ⟨q, 0, none⟩ = some (.pointer (some ⟨x.nt, 0, none⟩)) ∧ w'.cell? ⟨q, 1, none⟩ = some (.pointer (some ⟨rn, 0, none⟩)) ∧ w'.cell? ⟨q + 1, 0, none⟩ = some (.int .i64 f) ∧ w'.cell? ⟨e16, 0, none⟩ = some (.int .i64 0) ∧ w'.cell? ⟨e16, 1, none⟩ = some (.int .i64 ((j : Int) + 1)) ∧ w'.cell? ⟨e16, 2, none⟩ = some (.int .i64 3) ∧ w'.cell? ⟨e16, 3, none⟩ = some (.int .i64 1) ∧ w'.cell? ⟨e16, 4, none⟩ = some (.int .i64 1) ∧ w'.cell? ⟨e16, 5, none⟩ = some (.int .i64 0))
      (first | (with_reducible exact d0) | (with_reducible exact ad9d d0) | (with_reducible exact e0) | (with_reducible exact ad9 e0) | (with_reducible exact e1))
      (first
       | (go_at_call 20; refine HC.out.mono ?_; rintro e w5 ⟨a1', c1', a2', c2', rfl, e0, hgv⟩; have HGV := Lib.hid hgv; clear hgv)
       | (go_at_call 23; refine HGV.out.mono ?_; rintro e w6 ⟨rfl, cps', bk', out', L', vp', vt', g1, g2, g3, h6⟩; have e1 := ps_cells h6; have H6 := Lib.hid h6.drop; have HG1 := Lib.hid g1; have HG2 := Lib.hid g2; have HG3 := Lib.hid g3; clear h6 g1 g2 g3))
     clear d0 HC HGV
     go_wp2_with fail
     go_roundw
     case rel => exact ⟨j + 1, cps', bk', out', L', vp', vt', by go_num, by have := HJ.out; omega, by have := HG3.out; have := HLL.out; omega, by have := HG1.out; have := HOL.out; omega, HG2, H6⟩
     case measure => have := HJ.out; simp [intOf]; omega
    ·have hltI : decide ((j : Int) + 1 ≤ (N : Int)) = false := decide_eq_false (by omega)
     obtain rfl : j = N := by omega
     go_wp2_with fail
     go_meet
     exact ⟨cps, bk, out, L, vp, vt, Lib.hid (by omega), Lib.hid (by omega), HB, H⟩
  case rest =>
   clear H5 HBN
   obtain ⟨cps, bk, out, L, vp, vt, HL, HO, HB, H⟩ := hcut
   have hN0 : (0 : Int) ≤ (N : Int) := by omega
   have hes := HB.out.es
   have HES := Lib.hid hes
   clear hes
   have HOu := Lib.hid (ad_out H.out)
   clear H
   go_wp2_with fail
   refine HOu.out.mono ?_
   rintro e w3 ⟨oa, ok, os, rfl, -, h3⟩
   have H3 := Lib.hid h3.drop.drop
   clear h3 HOu
   have HCn := Lib.hid (ad_counts H3.out)
   go_wp2_with fail
   refine HCn.out.mono ?_
   rintro e w4 ⟨rfl, hu4⟩
   have H4 : Hid (NdIs W.heap.size W (w4.alloc (cnO (N : Nat) 0 0)) x (adS f id (dsP cps N) N bk [] (N : Nat) 0 (decide (16 ≤ N))) L (rnR rn vp vt L (blk w4.heap.size (cnO (N : Nat) 0 0) :: [blk (q + 1) (stdO f), blk q (twO x.nt rn)]))) := Lib.hid (((H3.out.upd0 hu4).box (cnO (N : Nat) 0 0)).perm ((List.perm_append_comm (l₁ := [_]) (l₂ := [_, _, _])).append_right _))
   clear hu4 H3 HCn
   go_upto_region 13 with fail
   generalize World.alloc w4 _ = w5 at *
   generalize w4.heap.size = e14 at *
   obtain ⟨r5, hs5, -⟩ := H4.out.side
   have t0 : w5.cell? ⟨q, 0, none⟩ = some (.pointer (some ⟨x.nt, 0, none⟩)) := zaa (hs5.blkAt 5 rfl) 0 rfl
   have t1 : w5.cell? ⟨q, 1, none⟩ = some (.pointer (some ⟨rn, 0, none⟩)) := zaa (hs5.blkAt 5 rfl) 1 rfl
   clear hs5
   by_cases h16 : N < 16
   ·rw [show decide (16 ≤ N) = false from decide_eq_false (by omega)] at H4
    have HG := Lib.hid (give_vote (f := f) (i := fm) (v := 0) H4.out rfl hf1 hf2 hfm0 (by omega) (by omega) (by omega) (by have := HL.out; omega) rfl rfl (by show (0 : Int) ≤ 0; omega) rfl (by show ([] : List (Int × Bys)).length ≤ _; simp) (by show ((N : Nat) : Int) ≤ _; omega) (by show (0 : Int) ≤ _; omega) (by show (0 : Int) ≤ _; omega) (by show (0 : Int) ≤ _; omega))
    have h16I : (N : Int) < 16 := by omega
    have hNB : (N : Int) + 1 ≤ 9223372036854775807 := by omega
    clear H4 h16
    go_wp2_with fail
    refine HG.out.mono ?_
    rintro e w6 ⟨rfl, vp', vt', vo', h6⟩
    obtain ⟨hc6, -, -⟩ := st_run h6
    have HC6 := Lib.hid hc6
    have H6 := Lib.hid h6
    clear h6 HG t0 t1 hc6
    go_wp2_with fail
    refine HC6.out.mono ?_
    rintro e w7 ⟨rfl, hu7⟩
    have H7 := Lib.hid ((H6.out.upd0 hu7).box (cnO ((N : Int) + 1) 0 0))
    clear hu7 H6 HC6
    go_upto_region 16 with fail
    generalize World.alloc w7 _ = w8 at *
    generalize w7.heap.size = e15 at *
    obtain ⟨r8, hs8, -⟩ := H7.out.side
    have c15 : w8.cell? ⟨e15, 0, none⟩ = some (.int .i64 ((N : Int) + 1)) := zaa (hs8.blkAt 0 rfl) 0 rfl
    have c14 : w8.cell? ⟨e14, 0, none⟩ = some (.int .i64 (N : Int)) := zaa (hs8.blkAt 4 rfl) 0 rfl
    obtain ⟨-, hst, hlg⟩ := st_run H7.out
    have HST := Lib.hid hst
    have HLG := Lib.hid hlg
    clear hs8 hst hlg H7
    go_wp2_with fail
    refine HST.out.mono ?_
    rintro e w' ⟨rfl, rfl⟩
    go_wp2_with fail
    refine HLG.out.mono ?_
    rintro e w9 ⟨y, rfl, -, hlp, h9⟩
    have HLE := Lib.hid (nd_len h9 hlp HES.out)
    have HU := Lib.hid (zvw h9)
    clear h9 hlp HLG HST c14 c15
    go_wp2_with fail
    refine HLE.out.mono ?_
    rintro e w' ⟨rfl, rfl⟩
    clear HLE
    go_wp2_with fail
    refine (zmx _).mono ?_
    rintro e w10 ⟨rfl, hu⟩
    have HU2 := Lib.hid (HU.out.trans hu)
    clear hu HU
    go_wp2_with fail
    go_ret
    exact ⟨rfl, HU2.out⟩
   ·rw [show decide (16 ≤ N) = true from decide_eq_true (by omega)] at H4
    have HG := Lib.hid (give_stop (i := fm) (v := 0) H4.out hfm0 (by omega) (by omega) (by omega) (by have := HL.out; omega) rfl (by show (0 : Int) ≤ 0; omega) (by show (0 : Int) ≤ _; omega))
    have h16I : decide ((N : Int) < 16) = false := decide_eq_false (by omega)
    clear H4 h16
    go_wp2_with fail
    refine HG.out.mono ?_
    rintro e w6 ⟨rfl, vp', vt', h6⟩
    replace h6 : NdIs W.heap.size W w6 x { adS f id (dsP cps N) N bk [] (N : Nat) 0 true with shut := 1 } (sealL L fm (chgB fm 0)) (rnR rn vp' vt' (sealL L fm (chgB fm 0)) (blk e14 (cnO (N : Nat) 0 0) :: [blk (q + 1) (stdO f), blk q (twO x.nt rn)])) := h6
    obtain ⟨hc6, -, -, -⟩ := st_shut h6
    have HC6 := Lib.hid hc6
    have H6 := Lib.hid h6
    clear h6 HG t0 t1 hc6
    go_wp2_with fail
    refine HC6.out.mono ?_
    rintro e w7 ⟨rfl, hu7⟩
    have H7 := Lib.hid ((H6.out.upd0 hu7).box (cnO (N : Nat) 0 1))
    clear hu7 H6 HC6
    go_upto_region 17 with fail
    generalize World.alloc w7 _ = w8 at *
    generalize w7.heap.size = e15 at *
    go_wp2_with fail
    go_loopw [16] (fun iv wr => ∃ j : Nat, iv = .int .i64 j ∧ j ≤ 30 ∧ wr = w8) (fun iv _ => 30 - (intOf iv).toNat)
    case atStart => exact ⟨0, rfl, by omega, rfl⟩
    case round =>
     obtain ⟨j, rfl, hj, rfl⟩ := hrel
     have hj0 : (0 : Int) ≤ (j : Int) := by omega
     by_cases hlt : j < 30
     ·have hltI : (j : Int) < 30 := by omega
      obtain ⟨-, -, htk, -⟩ := st_shut H7.out
      have HTK := Lib.hid htk
      clear htk
      go_wp2_with fail
      refine HTK.out.mono ?_
      rintro e w' ⟨rfl, rfl⟩
      clear HTK
      go_wp2_with fail
      go_roundw
      case rel => exact ⟨j + 1, by go_num, by omega, by first | trivial | rfl⟩
      case measure => simp [intOf]; omega
     ·have hltI : decide ((j : Int) < 30) = false := decide_eq_false (by omega)
      obtain ⟨r8, hs8, -⟩ := H7.out.side
      have c15 := zaa (hs8.blkAt 0 rfl) 0 rfl
      have d15 := zaa (hs8.blkAt 0 rfl) 3 rfl
      have c14 := zaa (hs8.blkAt 4 rfl) 0 rfl
      have d14 := zaa (hs8.blkAt 4 rfl) 3 rfl
      obtain ⟨-, hst, -, -⟩ := st_shut H7.out
      have HST := Lib.hid hst
      have HOU := Lib.hid (st_out H7.out)
      clear hs8 hst H7
      go_wp2_with fail
      refine HST.out.mono ?_
      rintro e w' ⟨rfl, rfl⟩
      go_wp2_with fail
      refine HOU.out.mono ?_
      rintro e w9 ⟨a, kk, rfl, h9⟩
      obtain ⟨-, -, -, hlg⟩ := st_shut h9
      have HLG := Lib.hid hlg
      clear h9 hlg HOU HST c14 c15 d14 d15
      go_wp2_with fail
      refine HLG.out.mono ?_
      rintro e w10 ⟨y, rfl, -, hlp, h10⟩
      have HLE := Lib.hid (nd_len h10 hlp HES.out)
      have HU := Lib.hid (zvw h10)
      clear h10 hlp HLG
      go_wp2_with fail
      refine HLE.out.mono ?_
      rintro e w' ⟨rfl, rfl⟩
      clear HLE
      go_wp2_with fail
      refine (zmx _).mono ?_
      rintro e w11 ⟨rfl, hu⟩
      have HU2 := Lib.hid (HU.out.trans hu)
      clear hu HU
      go_wp2_with fail
      go_ret
      exact ⟨rfl, HU2.out⟩
end Go.Proofs.YtannckelmojkoaaGreat
