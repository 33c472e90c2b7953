/- Parts of the proof, one behind the other. -/
import Derived.Test.YtdeadekeffficaaOnceB6

/- Plain: the law InstCerts: one slot, prepared in view after view. -/
namespace Go.Proofs.Ytdeadekeffficaa
open Go.RowKit Go.Heap

/-- The votes' nodes rise and are below n. -/
def Rises (vs : Vs) (n : Int) : Prop := vs.Pairwise (fun a b => a.1 < b.1) ∧ ∀ p ∈ vs, 0 ≤ p.1 ∧ p.1 < n

theorem picks_rise (b : List Rq) : ∀ (l : List Vt) (k : Nat), (picks b l k).Pairwise (fun a b => a.1 < b.1) ∧ ∀ p ∈ picks b l k, (k : Int) ≤ p.1 ∧ p.1 < (k : Int) + (l.length : Int)
  | [], k => by simp [picks]
  | t :: l, k => by
    obtain ⟨h1, h2⟩ := picks_rise b l (k + 1)
    rw [picks]
    split
    · refine ⟨List.pairwise_cons.2 ⟨fun p hp => ?_, h1⟩, fun p hp => ?_⟩
      · have := (h2 p hp).1
        show (k : Int) < p.1
        omega
      · rcases List.mem_cons.1 hp with rfl | hp
        · simp only [List.length_cons]; omega
        · have := h2 p hp
          simp only [List.length_cons] at this ⊢
          omega
    · refine ⟨h1, fun p hp => ?_⟩
      have := h2 p hp
      simp only [List.length_cons] at this ⊢
      omega

theorem picks_all (b : List Rq) : ∀ (l : List Vt) (k : Nat), (∀ t ∈ l, goodB b t = true) → (picks b l k).length = l.length
  | [], _, _ => rfl
  | t :: l, k, h => by
    rw [picks, if_pos (h t (by simp)), List.length_cons, picks_all b l (k + 1) (fun t ht => h t (by simp [ht])), List.length_cons]

/-- The first n have voted. -/
def qw (f : Nat) (t : Int) (b : List Rq) (n : Nat) : List Vt := (List.range (3 * f + 1)).map fun j => if j < n then ⟨true, t + j, b⟩ else noVt
theorem qw_len (f : Nat) (t : Int) (b : List Rq) (n : Nat) : (qw f t b n).length = 3 * f + 1 := by simp [qw]
theorem qw_zero (f : Nat) (t : Int) (b : List Rq) : qw f t b 0 = List.replicate (3 * f + 1) noVt := by simp [qw, List.map_const']
theorem qw_get (f : Nat) (t : Int) (b : List Rq) (n j : Nat) (hj : j < 3 * f + 1) : (qw f t b n)[j]? = some (if j < n then ⟨true, t + j, b⟩ else noVt) := by
  simp only [qw, List.getElem?_map, List.getElem?_range hj, Option.map_some]
theorem qw_set (f : Nat) (t : Int) (b : List Rq) (n : Nat) (_ : n < 3 * f + 1) : (qw f t b n).set n ⟨true, t + n, b⟩ = qw f t b (n + 1) := by
  apply List.ext_getElem?
  intro j
  by_cases hj : j < 3 * f + 1
  · by_cases e : n = j
    · subst e
      rw [List.getElem?_set_self (by rw [qw_len]; exact hj), qw_get f t b _ n hj, if_pos (by omega)]
    · rw [List.getElem?_set_ne e, qw_get f t b _ j hj, qw_get f t b _ j hj]
      by_cases h : j < n
      · rw [if_pos h, if_pos (by omega)]
      · rw [if_neg h, if_neg (by omega)]
  · rw [List.getElem?_eq_none (by simp [qw_len]; omega), List.getElem?_eq_none (by simp [qw_len]; omega)]
theorem qw_open (f : Nat) (t : Int) (b : List Rq) (n : Nat) (hn : n < 3 * f + 1) : openB (qw f t b n) n = true := by
  unfold openB
  rw [Int.toNat_natCast, qw_get f t b n n hn, if_neg (by omega)]
  simp [noVt]
theorem qw_good (f : Nat) (t : Int) (b : List Rq) : (picks b (qw f t b (3 * f + 1)) 0).length = 3 * f + 1 := by
  rw [picks_all, qw_len]
  intro x hx
  simp only [qw, List.mem_map, List.mem_range] at hx
  obtain ⟨j, hj, rfl⟩ := hx
  rw [if_pos hj]
  simp [goodB]

def qc (f : Nat) (t : Int) (b : List Rq) : Vs := (picks b (qw f t b (3 * f + 1)) 0).take (2 * f + 1)
theorem qc_len (f : Nat) (t : Int) (b : List Rq) : (qc f t b).length = 2 * f + 1 := by
  unfold qc
  rw [List.length_take, qw_good]
  omega
theorem qc_enough (f : Nat) (t : Int) (b : List Rq) : enoughS (qw f t b (3 * f + 1)) b (2 * f + 1) = some (qc f t b) := by
  unfold enoughS
  rw [if_neg (by rw [qw_good]; omega)]
  rfl
theorem qc_rise (f : Nat) (t : Int) (b : List Rq) : Rises (qc f t b) (3 * (f : Int) + 1) := by
  obtain ⟨h1, h2⟩ := picks_rise b (qw f t b (3 * f + 1)) 0
  refine ⟨h1.sublist (List.take_sublist _ _), fun p hp => ?_⟩
  have := h2 p (List.mem_of_mem_take hp)
  rw [qw_len] at this
  omega

/-! ### The law's states -/

def ePl (f : Nat) (o : Option Cp) : Pl := { emptyPl f with has := o.isSome, ct := o.getD noCp }
def cSl (f : Nat) (t : Int) (b : List Rq) (n : Nat) : Sl := ⟨true, b, qw f t b n, List.replicate (3 * f + 1) noVt⟩
def nPl (f : Nat) (o : Option Cp) (t : Int) (b : List Rq) (n : Nat) : Pl := { ePl f o with sl := cSl f t b n }
def cCp (f : Nat) (num v t : Int) (b : List Rq) : Cp := ⟨v, num, 2, b, qc f t b⟩
def cPl (f : Nat) (num v t : Int) (b : List Rq) : Pl := ⟨cSl f t b (3 * f + 1), true, true, cCp f num v t b, false, noCp⟩
def cs (f : Nat) (num v : Int) (on : Bool) (p : Pl) : In := ⟨f, num, 4, v, on, (List.range 16).map fun j => if j = 1 then p else emptyPl f⟩

section
variable {f : Nat} {num v : Int} {on : Bool} {p : Pl}

theorem cs_new (f : Nat) (num : Int) : newI f num 4 = cs f num 0 true (ePl f none) := by
  simp only [newI, cs, In.mk.injEq, true_and]
  apply List.ext_getElem?
  intro j
  rw [List.getElem?_replicate, List.getElem?_map]
  by_cases hj : j < 16
  · rw [if_pos hj, List.getElem?_range hj]
    simp only [Option.map_some]
    split <;> rfl
  · rw [if_neg hj, List.getElem?_eq_none (by simpa using hj)]
    rfl
theorem cs_pl (f : Nat) (num v : Int) (on : Bool) (p : Pl) : plAt (cs f num v on p) 2 = some p := rfl
theorem cs_upd (f : Nat) (num v : Int) (on : Bool) (p : Pl) (g : Pl → Pl) : (cs f num v on p).upd 1 g = cs f num v on (g p) := by
  simp only [In.upd, cs, In.mk.injEq, true_and]
  apply List.ext_getElem?
  intro j
  simp only [List.getElem?_modify, List.getElem?_map]
  by_cases hj : j < 16
  · rw [List.getElem?_range hj]
    simp only [Option.map_some]
    by_cases e : 1 = j
    · subst e
      simp
    · simp only [if_neg e, if_neg (show ¬ j = 1 by omega)]
      rfl
  · rw [List.getElem?_eq_none (by simpa using hj)]
    rfl
theorem cs_done (f : Nat) (num v : Int) (on : Bool) (p : Pl) : doneI (cs f num v on p) = 0 := rfl

theorem cs_pre (f : Nat) (num v : Int) (o : Option Cp) (t : Int) (b : List Rq) : preB (cs f num v true (ePl f o)) 2 = true ∧ preI (cs f num v true (ePl f o)) 2 b = cs f num v true (nPl f o t b 0) := by
  have hb : preB (cs f num v true (ePl f o)) 2 = true := rfl
  refine ⟨hb, ?_⟩
  simp only [preI, show idx 2 = some 1 from rfl]
  rw [if_pos hb, cs_upd]
  congr 1
  simp only [nPl, cSl, qw_zero]
  rfl

theorem cs_vote (f : Nat) (num v : Int) (o : Option Cp) (t : Int) (b : List Rq) (n : Nat) (hn : n < 3 * f + 1) : voteI (cs f num v true (nPl f o t b n)) 4 2 n (t + n) b = cs f num v true (nPl f o t b (n + 1)) := by
  have hc : canVote (cSl f t b n) 4 n = true := qw_open f t b n hn
  simp only [voteI, show idx 2 = some 1 from rfl]
  rw [if_pos (by rfl), cs_upd]
  congr 1
  simp only [nPl]
  have : voteS (cSl f t b n) 4 n (t + n) b = cSl f t b (n + 1) := by
    unfold voteS
    rw [if_pos hc, if_pos rfl]
    simp only [cSl, Sl.mk.injEq, true_and, and_true, Int.toNat_natCast]
    exact qw_set f t b n hn
  rw [this]

theorem cs_prep (f : Nat) (num v : Int) (o : Option Cp) (t : Int) (b : List Rq) : prepI (cs f num v true (nPl f o t b (3 * f + 1))) 2 = some (cCp f num v t b) ∧ preparedI (cs f num v true (nPl f o t b (3 * f + 1))) 2 = cs f num v true (cPl f num v t b) := by
  have hp : prepI (cs f num v true (nPl f o t b (3 * f + 1))) 2 = some (cCp f num v t b) := by
    simp only [prepI, cs_pl]
    simp only [show (cs f num v true (nPl f o t b (3 * f + 1))).on = true from rfl, show (nPl f o t b (3 * f + 1)).told = false from rfl, Bool.not_false, Bool.and_self, if_true]
    rw [show (cs f num v true (nPl f o t b (3 * f + 1))).f = f from rfl, show preparedS f (nPl f o t b (3 * f + 1)).sl = enoughS (qw f t b (3 * f + 1)) b (2 * f + 1) from rfl, qc_enough]
    rfl
  refine ⟨hp, ?_⟩
  simp only [preparedI, show idx 2 = some 1 from rfl, hp]
  rw [cs_upd]
  rfl

theorem cs_certs (f : Nat) (num v t : Int) (b : List Rq) : certsI (cs f num v true (cPl f num v t b)) = [cCp f num v t b] := rfl

theorem cs_leave (f : Nat) (num v t v' : Int) (b : List Rq) (h1 : v < v') (h2 : v' ≤ 12) : leaveB (cs f num v true (cPl f num v t b)) v' = true ∧ leaveI (cs f num v true (cPl f num v t b)) v' = cs f num v' false (ePl f (some (cCp f num v t b))) := by
  have hb : leaveB (cs f num v true (cPl f num v t b)) v' = true := by
    show (decide (v < v') && decide (v' ≤ 12)) = true
    rw [decide_eq_true h1, decide_eq_true h2]; rfl
  refine ⟨hb, ?_⟩
  unfold leaveI
  rw [if_pos hb]
  simp only [cs, In.mk.injEq, true_and, List.map_map]
  apply List.map_congr_left
  intro j _
  simp only [Function.comp]
  split <;> rfl
theorem cs_stay (f : Nat) (num v t v' : Int) (b : List Rq) (h1 : v' ≤ v) : leaveB (cs f num v true (cPl f num v t b)) v' = false := by
  show (decide (v < v') && decide (v' ≤ 12)) = false
  rw [decide_eq_false (by omega)]; rfl

end
end Go.Proofs.Ytdeadekeffficaa

/- psephoskeep.Cert of equal certificates; psephosref01.Rising of votes that rise. -/
namespace Go.Proofs.Ytdeadekeffficaa
open Go.RowKit Go.Heap

set_option maxHeartbeats 1000000 in
theorem keepCert_any (view inst seq : Int) (vb vv ub uv : Value) (rs : List Rq) (vs : Vs) (w : World) (hn : rs.length ≤ 100000) (hm : vs.length ≤ 100000) (hb : Bat w vb rs) (hv : Vts w vv vs) (hb' : Bat w ub rs) (hv' : Vts w uv vs) :
    Calls Try.prog 48 #[ctAgg ⟨view, inst, seq, vb, vv, rs, vs⟩, ctAgg ⟨view, inst, seq, ub, uv, rs, vs⟩] w fun e w' => e = .returned (.bool true) ∧ Upd [] w w' := by
  have h1 := (((Own.start (Below.refl w.heap.size w) (Nat.le_refl _)).box (ctO view inst seq vb vv)).box (ctO view inst seq ub uv))
  simp only [hs_alloc] at h1
  have hu : Upd [] w ((w.alloc (ctO view inst seq vb vv)).alloc (ctO view inst seq ub uv)) := ((Upd.refl _ _).alloc _).alloc _
  have H1 := Lib.hid h1
  have HB := Lib.hid (fun W' (h : Upd [] w W') => hb.upd (M := []) h (by simp))
  have HB' := Lib.hid (fun W' (h : Upd [] w W') => hb'.upd (M := []) h (by simp))
  have HV := Lib.hid (fun W' (h : Upd [] w W') => hv.upd (M := []) h (by simp))
  have HV' := Lib.hid (fun W' (h : Upd [] w W') => hv'.upd (M := []) h (by simp))
  obtain ⟨ao, cap, rfl⟩ := bat_form hb
  obtain ⟨bo, cbp, rfl⟩ := bat_form hb'
  obtain ⟨co, cav, rfl⟩ := vts_form hv
  obtain ⟨eo, cev, rfl⟩ := vts_form hv'
  clear hb hv hb' hv' h1
  go_enter Try.func48, Try.ntmps48
  go_upto_region 1 with fail
  have HU := Lib.hid hu
  clear hu
  generalize (w.alloc (ctO view inst seq (.slice ao rs.length cap) (.slice co vs.length cav))).alloc (ctO view inst seq (.slice bo rs.length cbp) (.slice eo vs.length cev)) = w1 at *
  obtain ⟨f0, f1, f2, f3, f4, fl, -⟩ := ct_cells H1.out.drop.blk_out
  obtain ⟨g0, g1, g2, g3, g4, gl, -⟩ := ct_cells H1.out.blk_out
  go_wp2_with fail
  refine (sameR_any _ _ rs rs _ hn hn (HB.out _ HU.out) (HB'.out _ HU.out)).mono ?_
  rintro e w2 ⟨rfl, hu2⟩
  rw [decide_eq_true rfl]
  have k4 := (hu2.cell (o := 4) fl (by simp)).trans f4
  have l4 := (hu2.cell (o := 4) gl (by simp)).trans g4
  have HU2 := Lib.hid (HU.out.trans hu2)
  clear f0 f1 f2 f3 f4 fl g0 g1 g2 g3 g4 gl hu2
  go_wp2_with fail
  refine (sameV_any _ _ vs vs _ hm hm (HV.out _ HU2.out) (HV'.out _ HU2.out)).mono ?_
  rintro e w3 ⟨rfl, hu3⟩
  rw [decide_eq_true rfl]
  have HU3 := Lib.hid (HU2.out.trans hu3)
  clear hu3
  go_wp2_with fail
  go_ret
  exact ⟨rfl, HU3.out⟩

theorem rises_at {vs : Vs} {n : Int} (h : Rises vs n) (k : Nat) (hk : k < vs.length) : 0 ≤ vs[k].1 ∧ vs[k].1 < n := h.2 _ (List.getElem_mem hk)
theorem rises_lt {vs : Vs} {n : Int} (h : Rises vs n) (m : Nat) (hk : m + 1 < vs.length) : vs[m].1 < vs[m + 1].1 := List.pairwise_iff_getElem.1 h.1 m (m + 1) (by omega) hk (by omega)

set_option maxHeartbeats 2000000 in
theorem rising01_any (f : Nat) (v : Value) (vs : Vs) (w : World) (hf1 : 1 ≤ f) (hf2 : f ≤ 4) (hl : vs.length = 2 * f + 1) (hr : Rises vs (3 * (f : Int) + 1)) (h : Vts w v vs) :
    Calls Try.prog 47 #[v, .int .i64 f] w fun e w' => e = .returned (.bool true) ∧ Upd [] w w' := by
  obtain ⟨ao, cap, rfl, h1, h2, h3, h4, h5⟩ := h
  clear h1 h2 h3 h4
  have H5 := Lib.hid h5
  have HR := Lib.hid hr
  clear h5 hr
  rw [hl]
  have HL := Lib.hid hl
  clear hl
  have e0 : (3 * (f : Int) + 1 == 0) = false := by simp; omega
  have e0' : decide (3 * (f : Int) + 1 = 0) = false := by simp; omega
  have e1 : (((2 * f + 1 : Nat) : Int) != 2 * (f : Int) + 1) = false := by simp
  go_enter Try.func47, Try.ntmps47
  go_wp2_with fail
  refine (rnodes_any f _ (by omega) (by omega)).mono ?_
  rintro e w' ⟨rfl, rfl⟩
  go_wp2_with fail
  refine (rquorum_any f _ (by omega) (by omega)).mono ?_
  rintro e w' ⟨rfl, rfl⟩
  go_wp2_with fail
  clear e0 e0' e1
  go_loopw [5] (fun i wr => ∃ k : Nat, k ≤ 2 * f + 1 ∧ i = .int .i64 k ∧ Below w.heap.size w wr) (fun i _ => 2 * f + 1 - (intOf i).toNat)
  case atStart => exact ⟨0, by omega, rfl, Below.refl _ _⟩
  case round =>
    obtain ⟨k, hk, rfl, hb⟩ := hrel
    by_cases hlt : k < 2 * f + 1
    · have hkv : k < vs.length := by rw [HL.out]; exact hlt
      obtain ⟨b, o, rfl, hbs, hc⟩ := H5.out (by rw [HL.out]; omega)
      have hcc := cells_below hb hbs hc
      obtain ⟨q0, -⟩ := vts_cells hcc k vs[k] (by simp)
      obtain ⟨t1, t2⟩ := rises_at HR.out k hkv
      have t1b : decide (vs[k].1 < 0) = false := by simp; omega
      have t2b : decide (3 * (f : Int) + 1 ≤ vs[k].1) = false := by simp; omega
      have HB := Lib.hid hb
      have HN := Lib.hid (fun wx => rnodes_any (f : Int) wx (by omega) (by omega))
      have HCC := Lib.hid hcc
      clear hb hc hcc
      by_cases hk0 : k = 0
      · subst hk0
        simp only [Nat.zero_mul, Nat.add_zero] at q0
        go_wp2_with fail
        go_quiet ((go_at_call 21; exact quiet_eq (HN.out _)))
        go_wp2_with fail
        go_roundw
        case rel => exact ⟨0 + 1, by omega, by go_num, below_drewN HB.out _⟩
        case measure => simp [intOf]
      · obtain ⟨m, rfl⟩ : ∃ m, k = m + 1 := ⟨k - 1, by omega⟩
        obtain ⟨p0, -⟩ := vts_cells HCC.out m vs[m] (by simp)
        have t3 := rises_lt HR.out m hkv
        have t3b : decide (vs[m + 1].1 ≤ vs[m].1) = false := by simp; omega
        have hp : decide ((0 : Int) < ((m + 1 : Nat) : Int)) = true := by simp
        clear hk0
        go_wp2_with fail
        go_quiet ((go_at_call 21; exact quiet_eq (HN.out _)))
        go_wp2_with fail
        go_roundw
        case rel => exact ⟨m + 1 + 1, by omega, by go_num, below_drewN HB.out _⟩
        case measure => simp [intOf]; omega
    · have hlb : decide ((k : Int) < ((2 * f + 1 : Nat) : Int)) = false := by simp; omega
      go_wp2_with fail
      go_ret
      exact ⟨rfl, Upd.of_below hb⟩

end Go.Proofs.Ytdeadekeffficaa

/- psephoskeep.Certs of equal certificates. -/
namespace Go.Proofs.Ytdeadekeffficaa
open Go.RowKit Go.Heap

theorem flat_at {α β : Type} (g : α → List β) (n : Nat) (hg : ∀ a, (g a).length = n) : ∀ (l : List α) (k j : Nat) (hk : k < l.length), j < n → (l.flatMap g)[k * n + j]? = (g l[k])[j]?
  | a :: l, 0, j, _, hj => by
    rw [List.flatMap_cons, List.getElem?_append_left (by rw [hg]; omega)]
    simp
  | a :: l, k + 1, j, hk, hj => by
    rw [List.flatMap_cons, List.getElem?_append_right (by rw [hg, Nat.succ_mul]; omega), hg]
    rw [show (k + 1) * n + j - n = k * n + j by rw [Nat.succ_mul]; omega]
    rw [flat_at g n hg l k j (by simpa using hk) hj]
    simp

/-- A slice of certificates, and what they name. -/
def CtsAt (w : World) (u : Value) (cts : List Ct) : Prop :=
  Reads w u 5 cts.length (cts.flatMap ctCells) ∧ ∀ c ∈ cts, Bat w c.vb c.rs ∧ c.rs.length ≤ 100000 ∧ Vts w c.vv c.vs ∧ c.vs.length ≤ 100000

theorem CtsAt.upd {w w' : World} {u : Value} {cts : List Ct} (h : CtsAt w u cts) (hu : Upd [] w w') : CtsAt w' u cts :=
  ⟨h.1.upd (M := []) hu (by simp), fun c hc => ⟨(h.2 c hc).1.upd (M := []) hu (by simp), (h.2 c hc).2.1, (h.2 c hc).2.2.1.upd (M := []) hu (by simp), (h.2 c hc).2.2.2⟩⟩

theorem CtsAt.at {w : World} {ao : Option Addr} {n cap : Nat} {cts : List Ct} (h : CtsAt w (.slice ao n cap) cts) (k : Nat) (hk : k < cts.length) : ∃ b o, ao = some ⟨b, o, none⟩ ∧ b < w.heap.size ∧
    w.cell? ⟨b, o + k * 5, none⟩ = some (.int .i64 cts[k].view) ∧ w.cell? ⟨b, o + k * 5 + 1, none⟩ = some (.int .i64 cts[k].inst) ∧ w.cell? ⟨b, o + k * 5 + 2, none⟩ = some (.int .i64 cts[k].seq) ∧ w.cell? ⟨b, o + k * 5 + 3, none⟩ = some cts[k].vb ∧ w.cell? ⟨b, o + k * 5 + 4, none⟩ = some cts[k].vv := by
  obtain ⟨ao', cap', e, -, -, -, -, h5⟩ := h.1
  cases e
  obtain ⟨b, o, rfl, hb, hc⟩ := h5 (by omega)
  have hj : ∀ j, j < 5 → w.cell? ⟨b, o + k * 5 + j, none⟩ = (ctCells cts[k])[j]? := fun j hj => by
    rw [Nat.add_assoc, hc _ (by omega), flat_at ctCells 5 (fun _ => rfl) cts k j hk hj]
  exact ⟨b, o, rfl, hb, hj 0 (by omega), hj 1 (by omega), hj 2 (by omega), hj 3 (by omega), hj 4 (by omega)⟩

theorem ct_same {c d : Ct} (h : c.cp = d.cp) : d.view = c.view ∧ d.inst = c.inst ∧ d.seq = c.seq ∧ d.rs = c.rs ∧ d.vs = c.vs := by
  simp only [Ct.cp, Cp.mk.injEq] at h
  exact ⟨h.1.symm, h.2.1.symm, h.2.2.1.symm, h.2.2.2.1.symm, h.2.2.2.2.symm⟩

set_option maxHeartbeats 1000000 in
theorem keepCerts_any (u1 u2 : Value) (c1 c2 : List Ct) (w : World) (h1 : CtsAt w u1 c1) (h2 : CtsAt w u2 c2) (he : c1.map Ct.cp = c2.map Ct.cp) (hn : c1.length ≤ 100000) :
    Calls Try.prog 53 #[u1, u2] w fun e w' => e = .returned (.bool true) ∧ Upd [] w w' := by
  obtain ⟨ao, cap, rfl, -⟩ := id h1.1
  obtain ⟨bo, cbp, rfl, -⟩ := id h2.1
  have hl : c1.length = c2.length := by simpa using congrArg List.length he
  have H1 := Lib.hid h1
  have H2 := Lib.hid h2
  have HE := Lib.hid he
  clear h1 h2 he
  have e1 : ((c1.length : Int) != (c2.length : Int)) = false := by simp [hl]
  have HL := Lib.hid hl
  clear hl
  go_enter Try.func53, Try.ntmps53
  go_wp2_with fail
  clear e1
  go_loopw [5] (fun n wr => ∃ k : Nat, k ≤ c1.length ∧ n = .int .i64 k ∧ Hid (Upd [] w wr)) (fun n _ => c1.length - (intOf n).toNat)
  case atStart => exact ⟨0, by omega, rfl, Lib.hid (Upd.refl _ _)⟩
  case round =>
    obtain ⟨k, hk, rfl, HU⟩ := hrel
    by_cases hlt : k < c1.length
    · have hkI : (k : Int) < (c1.length : Int) := by omega
      have hlt2 : k < c2.length := by rw [← HL.out]; exact hlt
      have hkJ : (k : Int) < (c2.length : Int) := by omega
      have hu0 : Upd [] w wr.drew := HU.out.drew
      obtain ⟨b, o, rfl, lb, x0, x1, x2, x3, x4⟩ := (H1.out.upd hu0).at k hlt
      obtain ⟨b', o', rfl, lb', y0, y1, y2, y3, y4⟩ := (H2.out.upd hu0).at k hlt2
      have hc : (c1[k]).cp = (c2[k]).cp := by
        have := congrArg (fun l => l[k]?) HE.out
        simpa [List.getElem?_map, List.getElem?_eq_getElem hlt, List.getElem?_eq_getElem hlt2] using this
      obtain ⟨g1, g2, g3, g4, g5⟩ := ct_same hc
      rw [g1] at y0
      rw [g2] at y1
      rw [g3] at y2
      obtain ⟨m1, m2, m3, m4⟩ := (H1.out.upd hu0).2 _ (List.getElem_mem hlt)
      obtain ⟨n1, -, n3, -⟩ := (H2.out.upd hu0).2 _ (List.getElem_mem hlt2)
      rw [g4] at n1
      rw [g5] at n3
      clear g1 g2 g3 g4 g5 hc
      generalize c1[k].view = view at *
      generalize c1[k].inst = inst at *
      generalize c1[k].seq = seq at *
      generalize c1[k].vb = vb at *
      generalize c1[k].vv = vv at *
      generalize c2[k].vb = ub at *
      generalize c2[k].vv = uv at *
      generalize c1[k].rs = rs at *
      generalize c1[k].vs = vs at *
      obtain ⟨ao1, cap1, rfl⟩ := bat_form m1
      obtain ⟨ao2, cap2, rfl⟩ := vts_form m3
      obtain ⟨ao3, cap3, rfl⟩ := bat_form n1
      obtain ⟨ao4, cap4, rfl⟩ := vts_form n3
      have M1 := Lib.hid m1
      have M3 := Lib.hid m3
      have N1 := Lib.hid n1
      have N3 := Lib.hid n3
      have M2 := Lib.hid m2
      have M4 := Lib.hid m4
      clear m1 m2 m3 m4 n1 n3
      go_wp2_with fail
      go_region_held3 (fun w' => w'.cell? ⟨b, o + k * 5, none⟩ = some (.int .i64 view) ∧ w'.cell? ⟨b, o + k * 5 + 1, none⟩ = some (.int .i64 inst) ∧ w'.cell? ⟨b, o + k * 5 + 2, none⟩ = some (.int .i64 seq) ∧ w'.cell? ⟨b, o + k * 5 + 3, none⟩ = some (.slice ao1 rs.length cap1) ∧ w'.cell? ⟨b, o + k * 5 + 4, none⟩ = some (.slice ao2 vs.length cap2) ∧
          w'.cell? ⟨b', o' + k * 5, none⟩ = some (.int .i64 view) ∧ w'.cell? ⟨b', o' + k * 5 + 1, none⟩ = some (.int .i64 inst) ∧ w'.cell? ⟨b', o' + k * 5 + 2, none⟩ = some (.int .i64 seq) ∧ w'.cell? ⟨b', o' + k * 5 + 3, none⟩ = some (.slice ao3 rs.length cap3) ∧ w'.cell? ⟨b', o' + k * 5 + 4, none⟩ = some (.slice ao4 vs.length cap4))
        (first
          | (with_reducible exact ⟨x0, x1, x2, x3, x4, y0, y1, y2, y3, y4⟩)
          | (with_reducible exact z))
        ((go_at_call 48; refine (keepCert_any view inst seq (.slice ao1 rs.length cap1) (.slice ao2 vs.length cap2) (.slice ao3 rs.length cap3) (.slice ao4 vs.length cap4) rs vs _ M2.out M4.out M1.out M3.out N1.out N3.out).mono ?_; rintro e w2 ⟨rfl, hu2⟩; have hv2 := hu0.trans hu2; have z := And.intro ((hu2.cell (o := o + k * 5) lb (by simp)).trans x0) (And.intro ((hu2.cell (o := o + k * 5 + 1) lb (by simp)).trans x1) (And.intro ((hu2.cell (o := o + k * 5 + 2) lb (by simp)).trans x2) (And.intro ((hu2.cell (o := o + k * 5 + 3) lb (by simp)).trans x3) (And.intro ((hu2.cell (o := o + k * 5 + 4) lb (by simp)).trans x4) (And.intro ((hu2.cell (o := o' + k * 5) lb' (by simp)).trans y0) (And.intro ((hu2.cell (o := o' + k * 5 + 1) lb' (by simp)).trans y1) (And.intro ((hu2.cell (o := o' + k * 5 + 2) lb' (by simp)).trans y2) (And.intro ((hu2.cell (o := o' + k * 5 + 3) lb' (by simp)).trans y3) ((hu2.cell (o := o' + k * 5 + 4) lb' (by simp)).trans y4)))))))))))
      go_wp2_with fail
      go_roundw
      case rel => exact ⟨k + 1, by omega, by go_num, Lib.hid hv2⟩
      case measure => simp [intOf]; omega
    · have hkb : decide ((k : Int) < (c1.length : Int)) = false := by simp; omega
      go_wp2_with fail
      go_ret
      exact ⟨rfl, HU.out⟩

end Go.Proofs.Ytdeadekeffficaa

/- Helps of psephoslaw15.do: batch, copies, comparisons of any two certificates. -/
namespace Go.Proofs.Ytdeadekeffficaa
open Go.RowKit Go.Heap

set_option maxHeartbeats 400000 in
theorem copyV_any (v : Value) (rs : Vs) (w : World) (hn : rs.length ≤ 100000) (h : Vts w v rs) :
    Calls Try.prog 88 #[v] w fun e w' => ∃ v', e = .returned v' ∧ Upd [] w w' ∧ Vts w' v' rs ∧ ∀ k ∈ blkOf v', w.heap.size ≤ k ∧ k < w'.heap.size := by
  obtain ⟨i0, hi, hz0, hz1, hz2⟩ := info_parts Try.infoVote
  have h' := h
  obtain ⟨ao, cap, rfl, h1, h2, h3, h4, h5⟩ := h'
  clear h1 h2 h3
  cases ao with
  | none =>
    obtain ⟨hr, rfl⟩ := h4 rfl
    have : rs = [] := List.eq_nil_of_length_eq_zero hr
    subst this
    clear hr h4 h5
    go_enter Try.func88, Try.ntmps88
    go_wp2
    go_ret
    exact ⟨_, rfl, Upd.refl _ _, Reads.nil _ _, by simp [blkOf]⟩
  | some a =>
    clear h4
    by_cases h0 : rs.length = 0
    · have : rs = [] := List.eq_nil_of_length_eq_zero h0
      subst this
      clear h5 h0
      go_enter Try.func88, Try.ntmps88
      go_wp2
      go_ret
      exact ⟨_, rfl, Upd.refl _ _, Reads.nil _ _, by simp [blkOf]⟩
    · obtain ⟨b, o, hab, hb, hc⟩ := h5 (by omega)
      simp only [Option.some.injEq] at hab
      subst hab
      clear h5
      have hpos : 0 < rs.length := by omega
      clear h0
      have hnews : ∀ j u, (vsCells rs)[j]? = some u → w.cell? ((⟨b, o, none⟩ : Addr).add j) = some u := by
        intro j u hj
        have hl := (List.getElem?_eq_some_iff.1 hj).1
        rw [vsCells_length] at hl
        have : (⟨b, o, none⟩ : Addr).add j = ⟨b, o + j, none⟩ := by unfold Addr.add; split <;> simp_all
        rw [this, hc j hl]
        exact hj
      have HN := Lib.hid hnews
      clear hc hnews
      go_enter Try.func88, Try.ntmps88
      go_wp2_with (at_builtin; refine wpList_append_lies _ rfl (.const (.slice none 0 0)) (.tmp 3) 37 rfl w.heap.size 44 i0 (.agg #[.int .i64 0, .int .i64 0]) 2 16 Try.underlying37 hi hz0 hz1 hz2 rfl (by decide) _ 0 [] rfl (World.ownsRow_nil _ _ _ _) ⟨b, o, none⟩ rs.length cap (vsCells rs) rfl (vsCells_length rs) HN.out (vsCells_one rs) hpos ?c3 ?c4 (Nat.le_refl _) w.heap.size rfl ?c6)
      case c3 => unfold maxLen; omega
      case c4 => omega
      case c6 =>
        intro g cap2 w2 hown hgrow hat hlt
        have hg : g = w.heap.size := by
          rcases hat with h | h
          · cases h
          · exact h
        subst hg
        try simp only [Nat.zero_add, List.nil_append] at hown
        have HO := Lib.hid hown
        clear hown hat
        go_wp2
        go_ret
        refine ⟨_, rfl, (Upd.refl _ _).grown hgrow (by intro k hk; cases hk), Reads.of_own HO.out, by simp [blkOf]; exact hlt⟩


set_option maxHeartbeats 4000000 in
theorem keepCert_dec (c d : Ct) (w : World) (hn : c.rs.length ≤ 100000) (hm : c.vs.length ≤ 100000) (kn : d.rs.length ≤ 100000) (km : d.vs.length ≤ 100000) (hb : Bat w c.vb c.rs) (hv : Vts w c.vv c.vs) (hb' : Bat w d.vb d.rs) (hv' : Vts w d.vv d.vs) :
    Calls Try.prog 48 #[ctAgg c, ctAgg d] w fun e w' => e = .returned (.bool (decide (c.cp = d.cp))) ∧ Upd [] w w' := by
  obtain ⟨view, inst, seq, vb, vv, rs, vs⟩ := c
  obtain ⟨view', inst', seq', ub, uv, rs', vs'⟩ := d
  simp only at hn hm kn km hb hv hb' hv'
  have h1 := (((Own.start (Below.refl w.heap.size w) (Nat.le_refl _)).box (ctO view inst seq vb vv)).box (ctO view' inst' seq' ub uv))
  simp only [hs_alloc] at h1
  have hu : Upd [] w ((w.alloc (ctO view inst seq vb vv)).alloc (ctO view' inst' seq' ub uv)) := ((Upd.refl _ _).alloc _).alloc _
  have H1 := Lib.hid h1
  have HB := Lib.hid (fun W' (h : Upd [] w W') => hb.upd (M := []) h (by simp))
  have HB' := Lib.hid (fun W' (h : Upd [] w W') => hb'.upd (M := []) h (by simp))
  have HV := Lib.hid (fun W' (h : Upd [] w W') => hv.upd (M := []) h (by simp))
  have HV' := Lib.hid (fun W' (h : Upd [] w W') => hv'.upd (M := []) h (by simp))
  obtain ⟨ao, cap, rfl⟩ := bat_form hb
  obtain ⟨bo, cbp, rfl⟩ := bat_form hb'
  obtain ⟨co, cav, rfl⟩ := vts_form hv
  obtain ⟨eo, cev, rfl⟩ := vts_form hv'
  have HD : Hid (decide ((Ct.cp ⟨view, inst, seq, .slice ao rs.length cap, .slice co vs.length cav, rs, vs⟩) = (Ct.cp ⟨view', inst', seq', .slice bo rs'.length cbp, .slice eo vs'.length cev, rs', vs'⟩)) = (view == view' && (inst == inst' && (seq == seq' && (decide (rs = rs') && decide (vs = vs')))))) := Lib.hid (by
    rw [Bool.eq_iff_iff]
    simp [Ct.cp, Cp.mk.injEq])
  rw [HD.out]
  clear hb hv hb' hv' h1
  cases q1 : (view == view') with
  | false =>
    go_enter Try.func48, Try.ntmps48
    go_upto_region 1 with fail
    have HU := Lib.hid hu
    clear hu
    generalize (w.alloc (ctO view inst seq (.slice ao rs.length cap) (.slice co vs.length cav))).alloc (ctO view' inst' seq' (.slice bo rs'.length cbp) (.slice eo vs'.length cev)) = w1 at *
    obtain ⟨f0, f1, f2, f3, f4, fl, -⟩ := ct_cells H1.out.drop.blk_out
    obtain ⟨g0, g1, g2, g3, g4, gl, -⟩ := ct_cells H1.out.blk_out
    go_wp2_with fail
    go_ret
    exact ⟨rfl, HU.out⟩
  | true =>
    cases q2 : (inst == inst') with
    | false =>
      go_enter Try.func48, Try.ntmps48
      go_upto_region 1 with fail
      have HU := Lib.hid hu
      clear hu
      generalize (w.alloc (ctO view inst seq (.slice ao rs.length cap) (.slice co vs.length cav))).alloc (ctO view' inst' seq' (.slice bo rs'.length cbp) (.slice eo vs'.length cev)) = w1 at *
      obtain ⟨f0, f1, f2, f3, f4, fl, -⟩ := ct_cells H1.out.drop.blk_out
      obtain ⟨g0, g1, g2, g3, g4, gl, -⟩ := ct_cells H1.out.blk_out
      go_wp2_with fail
      go_ret
      exact ⟨rfl, HU.out⟩
    | true =>
      cases q3 : (seq == seq') with
      | false =>
        go_enter Try.func48, Try.ntmps48
        go_upto_region 1 with fail
        have HU := Lib.hid hu
        clear hu
        generalize (w.alloc (ctO view inst seq (.slice ao rs.length cap) (.slice co vs.length cav))).alloc (ctO view' inst' seq' (.slice bo rs'.length cbp) (.slice eo vs'.length cev)) = w1 at *
        obtain ⟨f0, f1, f2, f3, f4, fl, -⟩ := ct_cells H1.out.drop.blk_out
        obtain ⟨g0, g1, g2, g3, g4, gl, -⟩ := ct_cells H1.out.blk_out
        go_wp2_with fail
        go_ret
        exact ⟨rfl, HU.out⟩
      | true =>
        go_enter Try.func48, Try.ntmps48
        go_upto_region 1 with fail
        have HU := Lib.hid hu
        clear hu
        generalize (w.alloc (ctO view inst seq (.slice ao rs.length cap) (.slice co vs.length cav))).alloc (ctO view' inst' seq' (.slice bo rs'.length cbp) (.slice eo vs'.length cev)) = w1 at *
        obtain ⟨f0, f1, f2, f3, f4, fl, -⟩ := ct_cells H1.out.drop.blk_out
        obtain ⟨g0, g1, g2, g3, g4, gl, -⟩ := ct_cells H1.out.blk_out
        go_wp2_with fail
        refine (sameR_any _ _ rs rs' _ hn kn (HB.out _ HU.out) (HB'.out _ HU.out)).mono ?_
        rintro e w2 ⟨rfl, hu2⟩
        have k4 := (hu2.cell (o := 4) fl (by simp)).trans f4
        have l4 := (hu2.cell (o := 4) gl (by simp)).trans g4
        have HU2 := Lib.hid (HU.out.trans hu2)
        clear f0 f1 f2 f3 f4 fl g0 g1 g2 g3 g4 gl hu2
        by_cases q4 : rs = rs'
        · rw [decide_eq_true q4]
          have Q4 := Lib.hid q4
          clear q4
          go_wp2_with fail
          refine (sameV_any _ _ vs vs' _ hm km (HV.out _ HU2.out) (HV'.out _ HU2.out)).mono ?_
          rintro e w3 ⟨rfl, hu3⟩
          have HU3 := Lib.hid (HU2.out.trans hu3)
          clear hu3
          go_wp2_with fail
          go_ret
          rw [show (true && (true && (true && (decide (rs = rs') && decide (vs = vs'))))) = decide (vs = vs') by simp [Q4.out]]
          exact ⟨rfl, HU3.out⟩
        · rw [decide_eq_false q4]
          have Q4 := Lib.hid q4
          clear q4
          go_wp2_with fail
          go_ret
          rw [show (true && (true && (true && (decide (rs = rs') && decide (vs = vs'))))) = false by simp [Q4.out]]
          exact ⟨rfl, HU2.out⟩

/-- The batches that psephoslaw15 plays with. -/
def bt (k : Int) : List Rq := if k % 5 ≤ 2 then [rq 0 1] else if k % 5 = 3 then [] else [rq 0 2, rq 1 1]
theorem bt_len (k : Int) : (bt k).length ≤ 2 := by unfold bt; split; simp; split <;> simp

set_option maxHeartbeats 1000000 in
theorem batch15_any (k : Int) (w : World) : Calls Try.prog 69 #[.int .i64 k] w fun e w' => ∃ v, e = .returned v ∧ Upd [] w w' ∧ w'.ownsRow w.heap.size 32 6 v (bt k).length (rqsCells (bt k)) := by
  obtain ⟨k1, k2⟩ := emod_in k 5 (by omega)
  have HW := Lib.hid (Within_any k 5 w (by omega) (by omega))
  by_cases h3 : k % 5 = 3
  · have HB := Lib.hid (show bt k = [] by unfold bt; rw [if_neg (by omega), if_pos h3])
    rw [HB.out]
    rw [h3] at HW
    go_enter Try.func69, Try.ntmps69
    go_wp2_with fail
    refine HW.out.mono ?_
    rintro e w' ⟨rfl, rfl⟩
    go_wp2_with fail
    go_ret
    exact ⟨_, rfl, Upd.refl _ _, World.ownsRow_nil _ _ _ _⟩
  · have b3 : (k % 5 == 3) = false := by simp [h3]
    by_cases h2 : k % 5 ≤ 2
    · have HB := Lib.hid (show bt k = [rq 0 1] by unfold bt; rw [if_pos h2])
      rw [HB.out]
      have : k % 5 = 0 ∨ k % 5 = 1 ∨ k % 5 = 2 := by omega
      rcases this with e | e | e <;> rw [e] at HW <;>
      · go_enter Try.func69, Try.ntmps69
        go_wp2_with fail
        refine HW.out.mono ?_
        rintro e w' ⟨rfl, rfl⟩
        go_wp2_with fail
        go_ret
        exact ⟨_, rfl, (Upd.refl _ _).alloc _, rfl, .inr ⟨w.heap.size, 1, _, rfl, Nat.le_refl _, heap_alloc_new _ _, by simp, by unfold maxLen; omega, rfl, rfl⟩⟩
    · have h4 : k % 5 = 4 := by omega
      have HB := Lib.hid (show bt k = [rq 0 2, rq 1 1] by unfold bt; rw [if_neg h2, if_neg h3])
      rw [HB.out]
      rw [h4] at HW
      go_enter Try.func69, Try.ntmps69
      go_wp2_with fail
      refine HW.out.mono ?_
      rintro e w' ⟨rfl, rfl⟩
      go_wp2_with fail
      go_ret
      exact ⟨_, rfl, (Upd.refl _ _).alloc _, rfl, .inr ⟨w.heap.size, 2, _, rfl, Nat.le_refl _, heap_alloc_new _ _, by simp, by unfold maxLen; omega, rfl, rfl⟩⟩

def CcP (w : World) (c : Ct) (out : Value) (w' : World) : Prop := ∃ (g' cap : Nat) (d : Ct), out = .slice (some ⟨g', 0, none⟩) 1 cap ∧ Upd [] w w' ∧ d.cp = c.cp ∧ g' < w'.heap.size ∧ (∀ j, j < 5 → w'.cell? ⟨g', j, none⟩ = (ctCells d)[j]?) ∧
      Bat w' d.vb d.rs ∧ Vts w' d.vv d.vs ∧ (∀ k ∈ blkOf d.vb, w.heap.size ≤ k) ∧ ∀ k ∈ blkOf d.vv, w.heap.size ≤ k

set_option maxHeartbeats 4000000 in
set_option maxRecDepth 100000 in
theorem copyCerts_one (c : Ct) (g : Nat) (w : World) (hg : w.heap[g]? = some (ctO c.view c.inst c.seq c.vb c.vv)) (hn : c.rs.length ≤ 100000) (hm : c.vs.length ≤ 100000) (hb : Bat w c.vb c.rs) (hv : Vts w c.vv c.vs) :
    Calls Try.prog 74 #[.slice (some ⟨g, 0, none⟩) 1 1] w fun e w' => ∃ out, e = .returned out ∧ CcP w c out w' := by
  obtain ⟨view, inst, seq, vb, vv, rs, vs⟩ := c
  simp only at hg hn hm hb hv
  obtain ⟨ao, cap, rfl⟩ := bat_form hb
  obtain ⟨co, cav, rfl⟩ := vts_form hv
  obtain ⟨f0, f1, f2, f3, f4, fl, -⟩ := ct_cells hg
  obtain ⟨i0, hi, hz0, hz1, hz2⟩ := info_parts Try.infoCert
  have HB := Lib.hid hb
  have HV := Lib.hid hv
  clear hb hv hg
  go_enter Try.func74, Try.ntmps74
  go_wp2_with fail
  go_loopw [3, 4] (fun out i wr => (i = .int .i64 0 ∧ out = .slice none 0 0 ∧ wr = w) ∨ (i = .int .i64 1 ∧ Hid (CcP w ⟨view, inst, seq, .slice ao rs.length cap, .slice co vs.length cav, rs, vs⟩ out wr))) (fun _ i _ => 1 - (intOf i).toNat)
  case atStart => exact .inl ⟨rfl, rfl, rfl⟩
  case round =>
    rcases hrel with ⟨rfl, rfl, rfl⟩ | ⟨rfl, HP⟩
    · go_upto_region 6 with fail
      have hu1 : Upd [] wr (wr.alloc (ctO view inst seq (.slice ao rs.length cap) (.slice co vs.length cav))).drew := ((Upd.refl _ _).alloc _).drew
      have hb1 : (wr.alloc (ctO view inst seq (.slice ao rs.length cap) (.slice co vs.length cav))).drew.heap[wr.heap.size]? = some (ctO view inst seq (.slice ao rs.length cap) (.slice co vs.length cav)) := heap_alloc_new wr _
      obtain ⟨g0, g1, g2, g3, g4, gl, -⟩ := ct_cells hb1
      have HC1 := Lib.hid (copyR_any (.slice ao rs.length cap) rs (wr.alloc (ctO view inst seq (.slice ao rs.length cap) (.slice co vs.length cav))).drew hn (HB.out.upd (M := []) hu1 (by simp)))
      have HC2 := Lib.hid (fun w' (hu : Upd [] wr w') => copyV_any (.slice co vs.length cav) vs w' hm (HV.out.upd (M := []) hu (by simp)))
      have HU1 := Lib.hid hu1
      have HB1 := Lib.hid hb1
      clear hu1 hb1 HB HV
      go_region_with (first
        | (go_at_call 59; refine HC1.out.mono ?_; rintro e w2 ⟨v2, rfl, hu2, hb2, hn2⟩; obtain ⟨a2, c2, rfl⟩ := bat_form hb2; have hk2 := (hu2.block _ gl (by simp)).trans HB1.out; have hx2 := ct_cells hk2; obtain ⟨x0, x1, x2, x3, x4, xl, xf⟩ := hx2; have HU2 := Lib.hid (HU1.out.trans hu2); have HUB := Lib.hid hu2; have HK2 := Lib.hid hk2; have HB2 := Lib.hid hb2; have HN2 := Lib.hid hn2; clear hu2 hk2 hb2 hn2)
        | (go_at_call 88; refine (HC2.out _ HU2.out).mono ?_; rintro e w3 ⟨v3, rfl, hu3, hv3, hn3⟩; obtain ⟨a3, c3, rfl⟩ := vts_form hv3; have hk3 := (hu3.block _ xl (by simp)).trans HK2.out; clear xf x0 x1 x2 x3 x4; obtain ⟨x0, x1, x2, x3, x4, -, xf⟩ := ct_cells hk3; have z3 := xf 3; have z4 := xf 4; have HU3 := Lib.hid hu3; have HK3 := Lib.hid hk3; have HV3 := Lib.hid hv3; have HN3 := Lib.hid hn3; clear hu3 hk3 hv3 hn3 xf))
      all_goals
        have hk5 : ((w3.setCell ⟨wr.heap.size, 3, none⟩ (.slice a2 rs.length c2)).setCell ⟨wr.heap.size, 4, none⟩ (.slice a3 vs.length c3)).heap[wr.heap.size]? = some (ctO view inst seq (.slice a2 rs.length c2) (.slice a3 vs.length c3)) := by
          rw [hp_same rfl, hp_same rfl, HK3.out]; rfl
        have hu5 : Upd [] wr ((w3.setCell ⟨wr.heap.size, 3, none⟩ (.slice a2 rs.length c2)).setCell ⟨wr.heap.size, 4, none⟩ (.slice a3 vs.length c3)) := ((HU2.out.trans HU3.out).setCell (.inr (Nat.le_refl _)) _).setCell (.inr (Nat.le_refl _)) _
        have hu35 : Upd [wr.heap.size] w3 ((w3.setCell ⟨wr.heap.size, 3, none⟩ (.slice a2 rs.length c2)).setCell ⟨wr.heap.size, 4, none⟩ (.slice a3 vs.length c3)) := ((Upd.refl _ _).setCell (.inl (by simp)) _).setCell (.inl (by simp)) _
        have hnb : ∀ k ∈ blkOf (.slice a2 rs.length c2), wr.heap.size < k := fun k hk => by
          have := (HN2.out k hk).1
          rw [hs_drew, hs_alloc] at this
          omega
        have hnv : ∀ k ∈ blkOf (.slice a3 vs.length c3), wr.heap.size < k := fun k hk => by
          have := (HN3.out k hk).1
          omega
        have hb5 := (HB2.out.upd (M := []) HU3.out (by simp)).upd hu35 (fun k hk hn => by have := hnb k hk; simp at hn; omega)
        have hv5 := HV3.out.upd hu35 (fun k hk hn => by have := hnv k hk; simp at hn; omega)
        have HB5 := Lib.hid hb5
        have HV5 := Lib.hid hv5
        have HNB := Lib.hid hnb
        have HNV := Lib.hid hnv
        have HU5 := Lib.hid hu5
        clear hu5 hu35 hb5 hv5 hnb hnv HB2 HV3 HN2 HN3 HU2 HU3 HK3 HC1 HC2 HU1 HB1 g0 g1 g2 g3 g4 gl HUB HK2 z3 z4 xl x0 x1 x2 x3 x4 f0 f1 f2 f3 f4 fl
        generalize (w3.setCell ⟨wr.heap.size, 3, none⟩ (.slice a2 rs.length c2)).setCell ⟨wr.heap.size, 4, none⟩ (.slice a3 vs.length c3) = w5 at *
        obtain ⟨f0, f1, f2, f3, f4, fl, -⟩ := ct_cells hk5
        clear hk5
        go_wp2_with (at_builtin; refine wpList_append_lies _ rfl (.tmp 24) (.tmp 26) 80 rfl 0 70 i0 (.agg #[.int .i64 0, .int .i64 0, .int .i64 0, .slice none 0 0, .slice none 0 0]) 5 72 Try.underlying80 hi hz0 hz1 hz2 rfl (by decide) _ 0 [] rfl (World.ownsRow_nil _ _ _ _) ⟨w5.heap.size, 0, none⟩ 1 1 (ctCells ⟨view, inst, seq, .slice a2 rs.length c2, .slice a3 vs.length c3, rs, vs⟩) rfl rfl ?c1 ?c2 (by decide) ?c3 ?c4 (Nat.zero_le _) _ rfl ?c6)
        case c1 => exact World.news_of_block (heap_alloc_new w5 _)
        case c2 => exact ctCells_one rfl rfl
        case c3 => unfold maxLen; omega
        case c4 => omega
        case c6 =>
          intro g9 cap9 w9 hown hgrow hat hlt9
          have hu9 : Upd [] wr w9 := (HU5.out.alloc _).grown hgrow (by intro k hk; cases hk)
          have hu59 : Upd [] w5 w9 := ((Upd.refl [] w5).alloc _).grown hgrow (by intro k hk; cases hk)
          have HP : Hid (CcP wr ⟨view, inst, seq, .slice ao rs.length cap, .slice co vs.length cav, rs, vs⟩ (.slice (some ⟨g9, 0, none⟩) 1 cap9) w9) := Lib.hid (by
            refine ⟨g9, cap9, ⟨view, inst, seq, .slice a2 rs.length c2, .slice a3 vs.length c3, rs, vs⟩, rfl, hu9, rfl, hlt9, fun j hj => ?_, HB5.out.upd (M := []) hu59 (by simp), Reads.upd (M := []) HV5.out hu59 (by simp), fun k hk => Nat.le_of_lt (HNB.out k hk), fun k hk => Nat.le_of_lt (HNV.out k hk)⟩
            obtain ⟨ao', cap', e, -, -, -, -, h5⟩ := own_reads hown
            cases e
            obtain ⟨b, o, e2, -, hc⟩ := h5 (by omega)
            cases e2
            have := hc j (by omega)
            simpa using this)
          clear hown hgrow hat hlt9 hu9 hu59
          go_wp2_with fail
          go_roundw
          case rel => exact .inr ⟨rfl, HP⟩
          case measure => simp [intOf]
    · obtain ⟨g', cap', d, rfl, hrest⟩ := HP.out
      have HR := Lib.hid hrest
      clear hrest
      go_wp2_with fail
      go_ret
      exact ⟨_, rfl, HP.out⟩

end Go.Proofs.Ytdeadekeffficaa

/- An instance and the document's one, side by side: the calls of each. -/
namespace Go.Proofs.Ytdeadekeffficaa
open Go.RowKit Go.Heap

/-- An instance in the state st at block i, the document's one in the state sd at block p. -/
def AtB (B : Nat) (w0 w : World) (i : Nat) (st : In) (p : Nat) (sd : In) (ss : List Res) : Prop := ∃ x h m, Ins.i x = i ∧ Ins.st x = st ∧ Own B w0 w (instR x :: docB p h m :: docI h m sd :: ss)

section
variable {B : Nat} {w0 W W' : World} {ss : List Res} {i p : Nat} {st sd : In} {r : Res}

theorem AtB.upd0 (h : AtB B w0 W i st p sd ss) (hu : Upd [] W W') : AtB B w0 W' i st p sd ss := let ⟨x, a, m, e1, e2, o⟩ := h; ⟨x, a, m, e1, e2, o.upd0 hu⟩
theorem AtB.alloc (h : AtB B w0 W i st p sd ss) (o : Obj) : AtB B w0 (W.alloc o) i st p sd ss := h.upd0 ((Upd.refl _ _).alloc o)
theorem AtB.drew (h : AtB B w0 W i st p sd ss) : AtB B w0 W.drew i st p sd ss := h.upd0 (Upd.refl _ _).drew
theorem AtB.below (h : AtB B w0 W i st p sd ss) : Below B w0 W := let ⟨_, _, _, _, _, o⟩ := h; o.below
theorem AtB.ss_own (h : AtB B w0 W i st p sd ss) : Own B w0 W ss := let ⟨_, _, _, _, _, o⟩ := h; o.drop.drop.drop
theorem AtB.fresh (h : AtB B w0 W i st p sd ss) {k : Nat} (hk : W.heap.size ≤ k) : k ∉ Ms ss := h.ss_own.fresh hk
theorem ab_new (h : AtB B w0 W i st p sd ss) (f : ∀ rs, Own B w0 W rs → Own B w0 W' (r :: rs)) : AtB B w0 W' i st p sd (r :: ss) := let ⟨x, a, m, e1, e2, o⟩ := h; ⟨x, a, m, e1, e2, (f _ o).perm3⟩
theorem ab_box (h : AtB B w0 W i st p sd ss) (o : Obj) : AtB B w0 (W.alloc o) i st p sd (blk W.heap.size o :: ss) := ab_new h fun _ q => q.box o
theorem ab_perm {ss' : List Res} (h : AtB B w0 W i st p sd ss) (hp : ss.Perm ss') : AtB B w0 W i st p sd ss' := let ⟨x, a, m, e1, e2, o⟩ := h; ⟨x, a, m, e1, e2, o.perm (((hp.cons _).cons _).cons _)⟩
theorem ab_drop (h : AtB B w0 W i st p sd (r :: ss)) : AtB B w0 W i st p sd ss := let ⟨x, a, m, e1, e2, o⟩ := h; ⟨x, a, m, e1, e2, o.perm3'.drop⟩
/-- The first one beside them turns. -/
theorem ab_turn {r' : Res} (h : AtB B w0 W i st p sd (r :: ss)) (f : ∀ rs, Own B w0 W (r :: rs) → Own B w0 W' (r' :: rs)) : AtB B w0 W' i st p sd (r' :: ss) := let ⟨x, a, m, e1, e2, o⟩ := h; ⟨x, a, m, e1, e2, (f _ o.perm3').perm3⟩

theorem ab_x (h : AtB B w0 W i st p sd ss) : ∃ a m, AtI B w0 W i st (docB p a m :: docI a m sd :: ss) := let ⟨x, a, m, e1, e2, o⟩ := h; ⟨a, m, x, e1, e2, o⟩
theorem ab_ofx {a : Nat → Value} {m : Nat → Nat → Value} (h : AtI B w0 W i st (docB p a m :: docI a m sd :: ss)) : AtB B w0 W i st p sd ss := let ⟨x, e1, e2, o⟩ := h; ⟨x, a, m, e1, e2, o⟩
theorem ab_d (h : AtB B w0 W i st p sd ss) : ∃ x, Ins.i x = i ∧ Ins.st x = st ∧ AtD B w0 W p sd (instR x :: ss) := let ⟨x, a, m, e1, e2, o⟩ := h; ⟨x, e1, e2, a, m, o.rot'⟩
theorem ab_ofd {x : Ins} (e1 : Ins.i x = i) (e2 : Ins.st x = st) (h : AtD B w0 W p sd (instR x :: ss)) : AtB B w0 W i st p sd ss := let ⟨a, m, o⟩ := h; ⟨x, a, m, e1, e2, o.rot⟩

/-! ### The instance -/

theorem ab_pre (h : AtB B w0 W i st p sd ss) (seq : Int) (v : Value) (l : List Rq) (hb : Bat W v l) (hn : l.length ≤ 100000) :
    Calls Try.prog 40 #[.pointer (some ⟨i, 0, none⟩), .int .i64 seq, v] W fun e w' => e = .returned (.bool (preB st seq)) ∧ AtB B w0 w' i (preI st seq l) p sd ss := by
  obtain ⟨a, m, hx⟩ := ab_x h
  refine (ai_pre hx seq v l hb hn).mono ?_
  rintro e w' ⟨he, h2⟩
  exact ⟨he, ab_ofx h2⟩
theorem ab_vote (h : AtB B w0 W i st p sd ss) (kind seq node sl : Int) (v : Value) (l : List Rq) (hb : Bat W v l) (hn : l.length ≤ 100000) :
    Calls Try.prog 35 #[.pointer (some ⟨i, 0, none⟩), .int .i64 kind, .int .i64 seq, .int .i64 node, .int .i64 sl, v] W fun e w' => e = .returned (.bool (voteB st kind seq node)) ∧ AtB B w0 w' i (voteI st kind seq node sl l) p sd ss := by
  obtain ⟨a, m, hx⟩ := ab_x h
  refine (ai_vote hx kind seq node sl v l hb hn).mono ?_
  rintro e w' ⟨he, h2⟩
  exact ⟨he, ab_ofx h2⟩
theorem ab_leave (h : AtB B w0 W i st p sd ss) (v : Int) : Calls Try.prog 41 #[.pointer (some ⟨i, 0, none⟩), .int .i64 v] W fun e w' => e = .returned (.bool (leaveB st v)) ∧ AtB B w0 w' i (leaveI st v) p sd ss := by
  obtain ⟨a, m, hx⟩ := ab_x h
  refine (ai_leave hx v).mono ?_
  rintro e w' ⟨he, h2⟩
  exact ⟨he, ab_ofx h2⟩
theorem ab_adopt (h : AtB B w0 W i st p sd ss) (c : Ct) (hb : Bat W c.vb c.rs) (hbn : c.rs.length ≤ 100000) (hv : Vts W c.vv c.vs) (hvn : c.vs.length ≤ 100000) :
    Calls Try.prog 39 #[.pointer (some ⟨i, 0, none⟩), ctAgg c] W fun e w' => e = .returned (.bool (adoptB st c.cp)) ∧ AtB B w0 w' i (adoptI st c.cp) p sd ss := by
  obtain ⟨a, m, hx⟩ := ab_x h
  refine (ai_adopt hx c hb hbn hv hvn).mono ?_
  rintro e w' ⟨he, h2⟩
  exact ⟨he, ab_ofx h2⟩

/-- A certificate that was told: its parts lie beside. -/
def ToldB (B : Nat) (w0 : World) (i p : Nat) (r : Option Cp) (st sd : In) (ss : List Res) (e : Ending) (w' : World) : Prop :=
  ∃ c : Ct, e = .returned (.tuple #[ctAgg c, .bool r.isSome]) ∧ c.cp = r.getD noCp ∧ (c.rs.length ≤ 100000 ∧ c.vs.length ≤ 100000) ∧ AtB B w0 w' i st p sd (votR c.vv c.vs :: batR c.vb c.rs :: ss)

theorem told_perm {r1 r2 r3 r4 r0 : Res} (h : Own B w0 W (r0 :: r1 :: r2 :: r3 :: r4 :: ss)) : Own B w0 W (r0 :: r3 :: r4 :: r1 :: r2 :: ss) := h.perm (((List.perm_append_comm (l₁ := [r1, r2]) (l₂ := [r3, r4])).append_right ss).cons r0)

theorem ab_prepared (h : AtB B w0 W i st p sd ss) (seq : Int) : Calls Try.prog 45 #[.pointer (some ⟨i, 0, none⟩), .int .i64 seq] W (ToldB B w0 i p (prepI st seq) (preparedI st seq) sd ss) := by
  obtain ⟨a, m, hx⟩ := ab_x h
  refine (ai_prepared2 hx seq).mono ?_
  rintro e w' ⟨c, he, ⟨t1, t2, -⟩, x, e1, e2, o⟩
  exact ⟨c, he, t1, t2, x, a, m, e1, e2, told_perm o⟩
theorem ab_commits (h : AtB B w0 W i st p sd ss) (seq : Int) : Calls Try.prog 36 #[.pointer (some ⟨i, 0, none⟩), .int .i64 seq] W (ToldB B w0 i p (commI st seq) (commitsI st seq) sd ss) := by
  obtain ⟨a, m, hx⟩ := ab_x h
  refine (ai_commits2 hx seq).mono ?_
  rintro e w' ⟨c, he, ⟨t1, t2, -⟩, x, e1, e2, o⟩
  exact ⟨c, he, t1, t2, x, a, m, e1, e2, told_perm o⟩

/-! ### The document's -/

theorem ab_dpre {v : Value} {l : List Rq} (h : AtB B w0 W i st p sd (batR v l :: ss)) (seq : Int) (hn : l.length ≤ 100000) :
    Calls Try.prog 70 #[.pointer (some ⟨p, 0, none⟩), .int .i64 seq, v] W fun e w' => e = .returned (.bool (preB sd seq)) ∧ AtB B w0 w' i st p (preI sd seq l) ss := by
  obtain ⟨x, e1, e2, hx⟩ := ab_d h
  refine (ad_pre (ad_perm hx (.swap _ _ _)) seq hn).mono ?_
  rintro e w' ⟨he, h2⟩
  exact ⟨he, ab_ofd e1 e2 h2⟩
theorem ab_dvote {v : Value} {l : List Rq} (h : AtB B w0 W i st p sd (batR v l :: ss)) (kind seq node sl : Int) (hn : l.length ≤ 100000) :
    Calls Try.prog 71 #[.pointer (some ⟨p, 0, none⟩), .int .i64 kind, .int .i64 seq, .int .i64 node, .int .i64 sl, v] W fun e w' => e = .returned (.bool (voteB sd kind seq node)) ∧ AtB B w0 w' i st p (voteI sd kind seq node sl l) ss := by
  obtain ⟨x, e1, e2, hx⟩ := ab_d h
  refine (ad_vote (ad_perm hx (.swap _ _ _)) kind seq node sl hn).mono ?_
  rintro e w' ⟨he, h2⟩
  exact ⟨he, ab_ofd e1 e2 h2⟩
theorem ab_dleave (h : AtB B w0 W i st p sd ss) (v : Int) :
    Calls Try.prog 76 #[.pointer (some ⟨p, 0, none⟩), .int .i64 v] W fun e w' => e = .returned (.bool (leaveB sd v)) ∧ AtB B w0 w' i st p (leaveI sd v) ss := by
  obtain ⟨x, e1, e2, hx⟩ := ab_d h
  refine (ad_leave hx v).mono ?_
  rintro e w' ⟨he, h2⟩
  exact ⟨he, ab_ofd e1 e2 h2⟩
theorem ab_dadopt (c : Ct) (h : AtB B w0 W i st p sd (batR c.vb c.rs :: votR c.vv c.vs :: ss)) (n1 : c.rs.length ≤ 100000) (n2 : c.vs.length ≤ 100000) :
    Calls Try.prog 75 #[.pointer (some ⟨p, 0, none⟩), ctAgg c] W fun e w' => e = .returned (.bool (adoptB sd c.cp)) ∧ AtB B w0 w' i st p (adoptI sd c.cp) ss := by
  obtain ⟨x, e1, e2, hx⟩ := ab_d h
  refine (ad_adopt c (ad_perm hx ((List.Perm.swap _ _ _).trans ((List.Perm.swap _ _ _).cons _))) n1 n2).mono ?_
  rintro e w' ⟨he, h2⟩
  exact ⟨he, ab_ofd e1 e2 h2⟩
theorem ab_dinstall {v : Value} {bs : List (List Rq)} (h : AtB B w0 W i st p sd (bsR v bs :: ss)) (hbn : ∀ b ∈ bs, b.length ≤ 100000) :
    Calls Try.prog 77 #[.pointer (some ⟨p, 0, none⟩), v] W fun e w' => e = .returned (.bool (instB sd bs.length)) ∧ AtB B w0 w' i st p (installI sd bs) ss := by
  obtain ⟨x, e1, e2, hx⟩ := ab_d h
  refine (ad_install (ad_perm hx (.swap _ _ _)) hbn).mono ?_
  rintro e w' ⟨he, h2⟩
  exact ⟨he, ab_ofd e1 e2 h2⟩

/-- What the document tells: its parts can be read. -/
def ToldD (B : Nat) (w0 : World) (i p : Nat) (r : Option Cp) (st sd : In) (ss : List Res) (e : Ending) (w' : World) : Prop :=
  ∃ c : Ct, e = .returned (.tuple #[ctAgg c, .bool r.isSome]) ∧ c.cp = r.getD noCp ∧ (c.rs.length ≤ 100000 ∧ c.vs.length ≤ 100000) ∧ Bat w' c.vb c.rs ∧ Vts w' c.vv c.vs ∧ AtB B w0 w' i st p sd ss

theorem ab_dprepared (h : AtB B w0 W i st p sd ss) (seq : Int) : Calls Try.prog 72 #[.pointer (some ⟨p, 0, none⟩), .int .i64 seq] W (ToldD B w0 i p (prepI sd seq) st (preparedI sd seq) ss) := by
  obtain ⟨x, e1, e2, hx⟩ := ab_d h
  refine (ad_prepared hx seq).mono ?_
  rintro e w' ⟨c, he, t1, t2, t3, t4, h2⟩
  exact ⟨c, he, t1, t2, t3, t4, ab_ofd e1 e2 h2⟩
theorem ab_dcommits (h : AtB B w0 W i st p sd ss) (seq : Int) : Calls Try.prog 73 #[.pointer (some ⟨p, 0, none⟩), .int .i64 seq] W (ToldD B w0 i p (commI sd seq) st (commitsI sd seq) ss) := by
  obtain ⟨x, e1, e2, hx⟩ := ab_d h
  refine (ad_commits hx seq).mono ?_
  rintro e w' ⟨c, he, t1, t2, t3, t4, h2⟩
  exact ⟨c, he, t1, t2, t3, t4, ab_ofd e1 e2 h2⟩

/-! ### What lies beside -/

theorem ab_cp {v : Value} {l : List Rq} (h : AtB B w0 W i st p sd ss) (hu : Upd [] W W') (ho : W'.ownsRow W.heap.size 32 6 v l.length (rqsCells l)) : AtB B w0 W' i st p sd (cpR v l :: ss) :=
  ab_new h fun rs q => q.new hu ⟨[], ⟨⟨ho.1, ho.2.imp id fun ⟨g, cap, cur, e, hb, hg⟩ => ⟨g, cap, cur, e, Nat.zero_le _, hg⟩⟩, rfl⟩, by simp, fun k hk => Nat.lt_of_lt_of_le (q.lt k hk) hu.size⟩ (fun k hk => by
    rcases ho.2 with ⟨rfl, _⟩ | ⟨g, cap, cur, rfl, hb, _⟩
    · simp [cpR, blkOf] at hk
    · simp [cpR, blkOf] at hk; omega)

theorem ab_bat {v : Value} {l : List Rq} (h : AtB B w0 W i st p sd ss) (hu : Upd [] W W') (ho : W'.ownsRow W.heap.size 32 6 v l.length (rqsCells l)) : AtB B w0 W' i st p sd (batR v l :: ss) :=
  ab_new h fun rs q => own_batR (q.upd0 hu) (own_reads ho) (fun k hk => by
    refine q.fresh ?_
    rcases ho.2 with ⟨rfl, _⟩ | ⟨g, cap, cur, rfl, hb, _⟩
    · have := blkIf_sub hk; simp [blkOf] at this
    · have := blkIf_sub hk; simp [blkOf] at this; omega)

/-- psephoslaw15.Act. -/
structure A7 where
  act : Int
  seq : Int
  kind : Int
  node : Int
  sl : Int
  which : Int
  view : Int
abbrev a7Agg (a : A7) : Value := .agg #[.int .i64 a.act, .int .i64 a.seq, .int .i64 a.kind, .int .i64 a.node, .int .i64 a.sl, .int .i64 a.which, .int .i64 a.view]
abbrev a7O (a : A7) : Obj := .cells #[.int .i64 a.act, .int .i64 a.seq, .int .i64 a.kind, .int .i64 a.node, .int .i64 a.sl, .int .i64 a.which, .int .i64 a.view] 89 (0, 0)
theorem a7_box {w : World} {b : Nat} {a : A7} (h : w.heap[b]? = some (a7O a)) : w.cell? ⟨b, 0, none⟩ = some (.int .i64 a.act) ∧ w.cell? ⟨b, 1, none⟩ = some (.int .i64 a.seq) ∧ w.cell? ⟨b, 2, none⟩ = some (.int .i64 a.kind) ∧
    w.cell? ⟨b, 3, none⟩ = some (.int .i64 a.node) ∧ w.cell? ⟨b, 4, none⟩ = some (.int .i64 a.sl) ∧ w.cell? ⟨b, 5, none⟩ = some (.int .i64 a.which) ∧ w.cell? ⟨b, 6, none⟩ = some (.int .i64 a.view) :=
  ⟨by rw [block_cell h]; rfl, by rw [block_cell h]; rfl, by rw [block_cell h]; rfl, by rw [block_cell h]; rfl, by rw [block_cell h]; rfl, by rw [block_cell h]; rfl, by rw [block_cell h]; rfl⟩

/-- The batches of an act that installs. -/
def btsOf (a : A7) (n : Nat) : List (List Rq) := (List.range n).map fun (k : Nat) => bt (IntKind.i64.wrap (a.which + (k : Int)))

/-- What an act does to a state. -/
def stepI (st : In) (a : A7) : In :=
  let k := a.act % 15
  if k < 3 then preI st a.seq (bt a.which)
  else if k < 10 then voteI st a.kind a.seq a.node a.sl (bt a.which)
  else if k = 10 then preparedI st a.seq
  else if k = 11 then commitsI st a.seq
  else if k = 12 then adoptI st ⟨a.view, a.kind, a.seq, bt a.which, [(1, a.sl)]⟩
  else if k = 13 then leaveI st a.view
  else installI st (btsOf a (a.seq % 19).toNat)

end
end Go.Proofs.Ytdeadekeffficaa

/- What psephoslaw15.InstOnce looks at: what an act leaves as it was. Plain. -/
namespace Go.Proofs.Ytdeadekeffficaa
open Go.RowKit Go.Heap

/-- What is done stays; what was told stays so, or the view is a greater one. -/
structure Le (st st' : In) : Prop where
  n : st'.l.length = st.l.length
  view : st.view ≤ st'.view
  pl : ∀ (k : Nat) (p : Pl), st.l[k]? = some p → ∃ p', st'.l[k]? = some p' ∧ (p.done = true → p'.done = true ∧ p'.dw = p.dw) ∧ (p.told = true → p'.told = true ∨ st.view < st'.view)

theorem Le.refl (st : In) : Le st st := ⟨rfl, Int.le_refl _, fun _ p h => ⟨p, h, fun h => ⟨h, rfl⟩, .inl⟩⟩
theorem Le.upd (st : In) (k : Nat) (g : Pl → Pl) (h : ∀ p, st.l[k]? = some p → (p.done = true → (g p).done = true ∧ (g p).dw = p.dw) ∧ (p.told = true → (g p).told = true)) : Le st (st.upd k g) :=
  ⟨by simp [In.upd], Int.le_refl _, fun j p hp => by
    by_cases e : k = j
    · subst e
      exact ⟨g p, by simp [In.upd, hp], (h p hp).1, fun ht => .inl ((h p hp).2 ht)⟩
    · exact ⟨p, by simp [In.upd, e, hp], fun hd => ⟨hd, rfl⟩, .inl⟩⟩

theorem le_pre (st : In) (seq : Int) (l : List Rq) : Le st (preI st seq l) := by
  unfold preI
  split
  · exact Le.refl _
  · split
    · exact Le.upd _ _ _ fun p _ => ⟨fun h => ⟨h, rfl⟩, fun h => h⟩
    · exact Le.refl _
theorem le_vote (st : In) (kind seq node sl : Int) (l : List Rq) : Le st (voteI st kind seq node sl l) := by
  unfold voteI
  split
  · exact Le.refl _
  · split
    · exact Le.upd _ _ _ fun p _ => ⟨fun h => ⟨h, rfl⟩, fun h => h⟩
    · exact Le.refl _
theorem le_prepared (st : In) (seq : Int) : Le st (preparedI st seq) := by
  unfold preparedI
  split
  · exact Le.upd _ _ _ fun p _ => ⟨fun h => ⟨h, rfl⟩, fun _ => rfl⟩
  · exact Le.refl _
theorem idx_at {st : In} {seq : Int} {k : Nat} {p : Pl} (hk : idx seq = some k) (hp : st.l[k]? = some p) : plAt st seq = some p := by simp [plAt, hk, hp]
theorem le_commits (st : In) (seq : Int) : Le st (commitsI st seq) := by
  unfold commitsI
  split
  · rename_i k c hk hc
    refine Le.upd _ _ _ fun p hp => ⟨fun hd => ?_, fun h => h⟩
    simp only [commI, idx_at hk hp, hd, if_true] at hc
    cases hc
  · exact Le.refl _
theorem le_adopt (st : In) (c : Cp) : Le st (adoptI st c) := by
  unfold adoptI
  split
  · exact Le.refl _
  · rename_i k hk
    split
    · rename_i hb
      refine Le.upd _ _ _ fun p hp => ⟨fun hd => ?_, fun h => h⟩
      simp only [adoptB, idx_at hk hp, hd] at hb
      simp at hb
    · exact Le.refl _
theorem le_leave (st : In) (v : Int) : Le st (leaveI st v) := by
  unfold leaveI
  split
  · rename_i hb
    simp only [leaveB, Bool.and_eq_true, decide_eq_true_eq] at hb
    refine ⟨by simp, by show st.view ≤ v; omega, fun k p hp => ⟨{ p with sl := emptySl st.f, told := false }, by simp [hp], fun hd => ⟨hd, rfl⟩, fun _ => .inr hb.1⟩⟩
  · exact Le.refl _
theorem preAll_at : ∀ (bs : List (List Rq)) (ps : List Pl) (k : Nat) (p : Pl), ps[k]? = some p → ∃ p', (preAll bs ps)[k]? = some p' ∧ p'.done = p.done ∧ p'.dw = p.dw ∧ p'.told = p.told
  | [], ps, k, p, h => ⟨p, by simpa [preAll] using h, rfl, rfl, rfl⟩
  | _ :: _, [], k, p, h => by simp at h
  | b :: bs, q :: ps, 0, p, h => by
    simp at h
    subst h
    exact ⟨{ q with sl := slPre b q.sl }, by simp [preAll], rfl, rfl, rfl⟩
  | b :: bs, q :: ps, k + 1, p, h => by
    obtain ⟨p', e1, e2⟩ := preAll_at bs ps k p (by simpa using h)
    exact ⟨p', by simpa [preAll] using e1, e2⟩
theorem le_install (st : In) (bs : List (List Rq)) : Le st (installI st bs) := by
  unfold installI
  split
  · refine ⟨preAll_len _ _, Int.le_refl _, fun k p hp => ?_⟩
    obtain ⟨p', e1, e2, e3, e4⟩ := preAll_at bs st.l k p hp
    exact ⟨p', e1, fun hd => ⟨by rw [e2]; exact hd, e3⟩, fun ht => .inl (by rw [e4]; exact ht)⟩
  · exact Le.refl _
theorem le_step (st : In) (a : A7) : Le st (stepI st a) := by
  unfold stepI
  dsimp only
  split
  · exact le_pre _ _ _
  · split
    · exact le_vote _ _ _ _ _ _
    · split
      · exact le_prepared _ _
      · split
        · exact le_commits _ _
        · split
          · exact le_adopt _ _
          · split
            · exact le_leave _ _
            · exact le_install _ _

/-- What InstOnce has noted by number: 1 and the view in which it was last prepared; with what it was committed. -/
structure OnceI (st : In) (pr : List Int) (tb : List Cp) : Prop where
  np : pr.length = 17
  nt : tb.length = 17
  n : st.l.length = 16
  vw : 0 ≤ st.view ∧ st.view ≤ 12
  pr : ∀ (k : Nat) (p : Pl) (x : Int), st.l[k]? = some p → pr[k + 1]? = some x → x ≤ st.view + (if p.told = true then 1 else 0)
  tb : ∀ (k : Nat) (p : Pl) (c : Cp), st.l[k]? = some p → tb[k + 1]? = some c → 0 < c.seq → p.done = true ∧ p.dw = c

theorem OnceI.le {st st' : In} {pr : List Int} {tb : List Cp} (h : OnceI st pr tb) (hl : Le st st') (hv : st'.view ≤ 12) : OnceI st' pr tb where
  np := h.np
  nt := h.nt
  n := hl.n.trans h.n
  vw := ⟨Int.le_trans h.vw.1 hl.view, hv⟩
  pr := fun k p' x hp' hx => by
    have hk : k < st.l.length := by have := (List.getElem?_eq_some_iff.1 hp').1; rw [hl.n] at this; exact this
    obtain ⟨q, e, -, ht⟩ := hl.pl k st.l[k] (by simp)
    rw [e] at hp'
    cases hp'
    have hvw := hl.view
    have := h.pr k st.l[k] x (by simp) hx
    by_cases hto : st.l[k].told = true
    · rw [if_pos hto] at this
      rcases ht hto with ht | ht
      · rw [if_pos ht]; omega
      · split <;> omega
    · rw [if_neg hto] at this
      split <;> omega
  tb := fun k p' c hp' hc h0 => by
    have hk : k < st.l.length := by have := (List.getElem?_eq_some_iff.1 hp').1; rw [hl.n] at this; exact this
    obtain ⟨q, e, hd, -⟩ := hl.pl k st.l[k] (by simp)
    rw [e] at hp'
    cases hp'
    obtain ⟨d1, d2⟩ := h.tb k st.l[k] c (by simp) hc h0
    obtain ⟨d3, d4⟩ := hd d1
    exact ⟨d3, d4.trans d2⟩

theorem OnceI.new (f : Nat) (num ahead : Int) : OnceI (newI f num ahead) (List.replicate 17 0) (List.replicate 17 noCp) where
  np := rfl
  nt := rfl
  n := rfl
  vw := ⟨by show (0 : Int) ≤ 0; decide, by show (0 : Int) ≤ 12; decide⟩
  pr := fun k p x hp hx => by
    have : x = 0 := by
      rw [List.getElem?_replicate] at hx
      split at hx
      · exact (Option.some.inj hx).symm
      · cases hx
    subst this
    show (0 : Int) ≤ 0 + _
    split <;> decide
  tb := fun k p c hp hc h0 => by
    have : c = noCp := by
      rw [List.getElem?_replicate] at hc
      split at hc
      · exact (Option.some.inj hc).symm
      · cases hc
    subst this
    exact absurd h0 (by decide)

/-- A certificate was prepared: it is of this view, and was not told in it. -/
theorem OnceI.prep {st : In} {pr : List Int} {tb : List Cp} (h : OnceI st pr tb) {k : Nat} (hk : k < 16) {c : Cp} (hc : prepI st ((k : Int) + 1) = some c) :
    c.view = st.view ∧ c.seq = (k : Int) + 1 ∧ st.on = true ∧ (∀ x, pr[k + 1]? = some x → x ≤ c.view) ∧ (preparedI st ((k : Int) + 1)).view = st.view ∧ (preparedI st ((k : Int) + 1)).on = st.on ∧ OnceI (preparedI st ((k : Int) + 1)) (pr.set (k + 1) (1 + c.view)) tb := by
  have hi : idx ((k : Int) + 1) = some k := by rw [idx_of (by omega) (by omega)]; exact congrArg some (by omega)
  have hkl : k < st.l.length := by rw [h.n]; exact hk
  have hp := idx_at (st := st) hi (p := st.l[k]) (by simp)
  have hst : preparedI st ((k : Int) + 1) = st.upd k fun p => { p with told := true, has := true, ct := c } := by simp only [preparedI, hi, hc]
  simp only [prepI, hp] at hc
  split at hc
  · rename_i hon
    simp only [Bool.and_eq_true, Bool.not_eq_true'] at hon
    obtain ⟨vs, hvs, rfl⟩ := Option.map_eq_some_iff.1 hc
    refine ⟨rfl, rfl, hon.1, fun x hx => ?_, by rw [hst]; rfl, by rw [hst]; rfl, ?_⟩
    · have := h.pr k st.l[k] x (by simp) hx
      rw [if_neg (by simp [hon.2])] at this
      simpa using this
    · have h2 := h.le (le_prepared st ((k : Int) + 1)) (by rw [hst]; exact h.vw.2)
      refine { h2 with np := by simp [h.np], pr := fun j p x hj hx => ?_ }
      rw [List.getElem?_set] at hx
      split at hx
      · rename_i e
        have e : k = j := by omega
        subst e
        rw [hst] at hj ⊢
        simp only [In.upd, List.getElem?_modify, if_true] at hj
        rw [List.getElem?_eq_getElem hkl] at hj
        simp at hj
        subst hj
        split at hx
        · cases hx
          show 1 + st.view ≤ st.view + _
          simp; omega
        · cases hx
      · exact h2.pr j p x hj hx
  · cases hc

theorem OnceI.comm {st : In} {pr : List Int} {tb : List Cp} (h : OnceI st pr tb) {k : Nat} (hk : k < 16) {c : Cp} (hc : committedI st ((k : Int) + 1) = some c) : OnceI st pr (tb.set (k + 1) c) := by
  have hi : idx ((k : Int) + 1) = some k := by rw [idx_of (by omega) (by omega)]; exact congrArg some (by omega)
  have hkl : k < st.l.length := by rw [h.n]; exact hk
  have hp := idx_at (st := st) hi (p := st.l[k]) (by simp)
  simp only [committedI, hp] at hc
  split at hc
  · rename_i hd
    cases hc
    refine { h with nt := by simp [h.nt], tb := fun j p c hj hx h0 => ?_ }
    rw [List.getElem?_set] at hx
    split at hx
    · rename_i e
      have e : k = j := by omega
      subst e
      rw [List.getElem?_eq_getElem hkl] at hj
      cases hj
      split at hx
      · cases hx
        exact ⟨hd, rfl⟩
      · cases hx
    · exact h.tb j p c hj hx h0
  · cases hc

/-- What was noted as committed is so still. -/
theorem OnceI.same {st : In} {pr : List Int} {tb : List Cp} (h : OnceI st pr tb) {k : Nat} (hk : k < 16) {c : Cp} (hc : tb[k + 1]? = some c) (h0 : 0 < c.seq) : committedI st ((k : Int) + 1) = some c := by
  have hi : idx ((k : Int) + 1) = some k := by rw [idx_of (by omega) (by omega)]; exact congrArg some (by omega)
  have hkl : k < st.l.length := by rw [h.n]; exact hk
  have hp := idx_at (st := st) hi (p := st.l[k]) (by simp)
  obtain ⟨d1, d2⟩ := h.tb k st.l[k] c (by simp) hc h0
  simp only [committedI, hp, d1, if_true, d2]

end Go.Proofs.Ytdeadekeffficaa

/- Slices of batches that are owned: what psephoslaw15.do installs. -/
namespace Go.Proofs.Ytdeadekeffficaa
open Go.RowKit Go.Heap

theorem Try.infoBatch : (Try.prog.info? 33).map (fun i => (i.zero, i.size, i.bytes)) = some (some (.slice none 0 0), 1, 24) := by kernel_rfl

/-- Batches can be read through a slice. -/
def BsAt (w : World) (v : Value) (bs : List (List Rq)) : Prop := ∃ ao cap, v = .slice ao bs.length cap ∧ ∀ k (hk : k < bs.length), ∃ b o u, ao = some ⟨b, o, none⟩ ∧ b < w.heap.size ∧ w.cell? ⟨b, o + k, none⟩ = some u ∧ Bat w u bs[k]

section
variable {B : Nat} {w0 w W W' : World} {ss rs : List Res} {i p : Nat} {st sd : In}

set_option maxHeartbeats 2000000 in
theorem ai_install_yes {v : Value} {bs : List (List Rq)} (h : AtI B w0 W i st ss) (hR : ∀ w, Own B w0 w ss → BsAt w v bs) (hbn : ∀ b ∈ bs, b.length ≤ 100000) (hon : st.on = false) (hlen : bs.length ≤ 16) :
    Calls Try.prog 44 #[.pointer (some ⟨i, 0, none⟩), v] W fun e w' => e = .returned (.bool true) ∧ AtI B w0 w' i { st with on := true, l := preAll bs st.l } ss := by
  obtain ⟨ao, cap, rfl, -⟩ := hR _ h.ss_own
  obtain ⟨x, rfl, rfl, h3⟩ := h
  have ho := own_open h3
  obtain ⟨-, -, -, -, c4, c5, l1, l2⟩ := oi_cells ho
  obtain ⟨-, fz⟩ := oi_fz ho
  have z4 := fz 4
  have hon' : x.on = false := hon
  rw [hon'] at c4
  have H1 : Hid (AtI B w0 (W.setCell ⟨x.i, 4, none⟩ (.bool true)) x.i { x.st with on := true } ss) := Lib.hid ⟨{ x with on := true }, rfl, rfl, own_shut (by
    have h4 : Own B w0 (W.setCell ⟨x.i, 4, none⟩ (.bool true)) (blk x.i (insO x.f x.num x.ahead x.view true (.slice (some ⟨x.b, 0, none⟩) 16 x.cap)) :: segR x.b 122 (x.l.flatMap pmCells) :: certsR x :: (x.l.map pmR ++ ss)) := Own.store ho 4 (.bool true)
    exact oi_hd h4 (oi_ok ho).vw)⟩
  have hlb : decide ((16 : Int) < (bs.length : Int)) = false := by simp; omega
  clear ho h3 fz hon hon'
  generalize hl0 : x.st = st0 at *
  clear hl0
  generalize x.i = i at *
  have HBN := Lib.hid hbn
  have HR := Lib.hid hR
  clear hbn hR
  go_enter Try.func44, Try.ntmps44
  go_wp2_with fail
  generalize W.setCell ⟨i, 4, none⟩ (.bool true) = w1 at *
  clear c4 c5 l1 l2 z4 hlb
  go_loopw [26] (fun n wr => ∃ k : Nat, k ≤ bs.length ∧ n = .int .i64 k ∧ Hid (AtI B w0 wr i { st0 with on := true, l := preAll (bs.take k) st0.l } ss)) (fun n _ => bs.length - (intOf n).toNat)
  case atStart => exact ⟨0, by omega, rfl, Lib.hid (by simpa [preAll] using H1.out)⟩
  case round =>
    clear H1
    obtain ⟨k, hk, rfl, H1⟩ := hrel
    by_cases hlt : k < bs.length
    · have hkI : (k : Int) < (bs.length : Int) := by omega
      have hk16 : (k : Int) < 16 := by omega
      obtain ⟨ao', cap', e, hbs⟩ := HR.out _ H1.out.ss_own
      simp only [Value.slice.injEq, true_and] at e
      obtain ⟨rfl, rfl⟩ := e
      obtain ⟨b, o, u, rfl, hb, cu, hbat⟩ := hbs k hlt
      obtain ⟨y, rfl, hy, h3⟩ := H1.out
      have ho := own_open h3
      obtain ⟨-, -, -, -, -, c5, l1, l2⟩ := oi_cells ho
      have hyl : k < y.l.length := by rw [(oi_ok ho).n]; omega
      have cp := oi_ptr ho k hyl
      have HC := Lib.hid (own_pre (oi_pick ho k hyl) u bs[k] hbat (HBN.out _ (List.getElem_mem hlt)))
      have HS := Lib.hid (show ({ y.st with l := y.st.l.modify k fun p => { p with sl := slPre bs[k] p.sl } } : In) = { st0 with on := true, l := preAll (bs.take (k + 1)) st0.l } by rw [hy, preAll_take bs st0.l k hlt])
      have HY := Lib.hid hyl
      obtain ⟨uo, ucap, rfl⟩ := bat_form hbat
      clear ho h3 H1 hy hbat hbs
      go_wp2_with fail
      refine HC.out.mono ?_
      rintro e w2 ⟨rfl, -, h2⟩
      have H2 : Hid (AtI B w0 w2 y.i { st0 with on := true, l := preAll (bs.take (k + 1)) st0.l } ss) := Lib.hid
        ⟨y.sl k { y.l[k] with sl := slPre bs[k] y.l[k].sl }, rfl, by rw [← HS.out]; exact st_set y k HY.out _ (fun p => { p with sl := slPre bs[k] p.sl }) rfl, own_shut (oi_unpick k HY.out _ h2 rfl ⟨rfl, rfl⟩ rfl)⟩
      clear h2
      go_wp2_with fail
      go_roundw
      case rel => exact ⟨k + 1, by omega, by go_num, H2⟩
      case measure => simp [intOf]; omega
    · have hkb : decide ((k : Int) < (bs.length : Int)) = false := by simp; omega
      have hke : k = bs.length := by omega
      have H2 : Hid (AtI B w0 wr i { st0 with on := true, l := preAll bs st0.l } ss) := Lib.hid (by have h := H1.out; rw [hke, List.take_length] at h; exact h)
      clear hke H1
      go_wp2_with fail
      go_ret
      exact ⟨rfl, H2.out⟩

set_option maxHeartbeats 1000000 in
theorem ai_install_any {v : Value} {bs : List (List Rq)} (h : AtI B w0 W i st ss) (hR : ∀ w, Own B w0 w ss → BsAt w v bs) (hbn : ∀ b ∈ bs, b.length ≤ 100000) (hmx : bs.length ≤ 1000) :
    Calls Try.prog 44 #[.pointer (some ⟨i, 0, none⟩), v] W fun e w' => e = .returned (.bool (instB st bs.length)) ∧ AtI B w0 w' i (installI st bs) ss := by
  cases hon : st.on with
  | true =>
    have HB := Lib.hid (show instB st bs.length = false by simp [instB, hon])
    have hin : installI st bs = st := by unfold installI; rw [if_neg (by simp [HB.out])]
    rw [HB.out, hin]
    clear hin
    have HW := Lib.hid h
    obtain ⟨ao, cap, rfl, -⟩ := hR _ h.ss_own
    obtain ⟨x, rfl, rfl, h3⟩ := h
    obtain ⟨-, -, -, -, c4, c5, l1, l2⟩ := oi_cells (own_open h3)
    have hon' : x.on = true := hon
    rw [hon'] at c4
    clear h3 hon hon' hbn hR
    go_enter Try.func44, Try.ntmps44
    go_wp2_with fail
    go_ret
    exact ⟨rfl, HW.out⟩
  | false =>
    by_cases hl : bs.length ≤ 16
    · have HB := Lib.hid (show instB st bs.length = true by simp [instB, hon, hl])
      have hin : installI st bs = { st with on := true, l := preAll bs st.l } := by unfold installI; rw [if_pos HB.out]
      rw [HB.out, hin]
      exact ai_install_yes h hR hbn hon hl
    · have HB := Lib.hid (show instB st bs.length = false by simp [instB, hon, hl])
      have hin : installI st bs = st := by unfold installI; rw [if_neg (by simp [HB.out])]
      rw [HB.out, hin]
      clear hin
      have hlb : decide ((16 : Int) < (bs.length : Int)) = true := by simp; omega
      have HW := Lib.hid h
      obtain ⟨ao, cap, rfl, -⟩ := hR _ h.ss_own
      obtain ⟨x, rfl, rfl, h3⟩ := h
      obtain ⟨-, -, -, -, c4, c5, l1, l2⟩ := oi_cells (own_open h3)
      have hon' : x.on = false := hon
      rw [hon'] at c4
      clear h3 hon hon' hbn hR hl
      go_enter Try.func44, Try.ntmps44
      go_wp2_with fail
      go_ret
      exact ⟨rfl, HW.out⟩

/-! ### Resources -/

abbrev usR (us : List (Value × List Rq)) : Res := joinR (us.map fun u => cpR u.1 u.2)
abbrev rwR (us : List (Value × List Rq)) : Res := joinR (us.map fun u => rowR 32 6 u.1 u.2.length)
abbrev lsR (v : Value) (n : Nat) (vals : List Value) : Res := ownR 33 1 v n vals

/-- Batches that are only read, by their values. -/
def bR (vals : List Value) (bs : List (List Rq)) : Res := imm (fun w D => vals.length = bs.length ∧ ∀ k (hk : k < bs.length), ∃ u, vals[k]? = some u ∧ BatIn w u bs[k] D) (fun ⟨e, h⟩ hk hs => ⟨e, fun k hkl => let ⟨u, e, hb⟩ := h k hkl; ⟨u, e, hb.dep hk hs⟩⟩)

theorem own_bR0 (h : Own B w0 W rs) : Own B w0 W (bR [] [] :: rs) := h.new (Upd.refl [] _) ⟨[], ⟨⟨rfl, by simp⟩, by simp⟩, by simp, fun k hk => h.lt k hk⟩ (by simp [bR, imm])
theorem own_bRadd {u : Value} {l : List Rq} {vals : List Value} {bs : List (List Rq)} (h : Own B w0 W (bR vals bs :: batR u l :: rs)) : Own B w0 W (bR (vals ++ [u]) (bs ++ [l]) :: rs) := by
  refine own_join h ?_
  rintro D D1 ⟨e, hb⟩ hu
  refine ⟨by simp [e], fun k hk => ?_⟩
  by_cases hk2 : k < bs.length
  · obtain ⟨x, e1, e2⟩ := hb k hk2
    refine ⟨x, by rw [List.getElem?_append_left (by omega)]; exact e1, ?_⟩
    rw [List.getElem_append_left hk2]
    exact ReadsIn.mono e2 (by simp +contextual)
  · have hk3 : k = bs.length := by simp at hk; omega
    subst hk3
    refine ⟨u, by rw [← e]; simp, ?_⟩
    simp only [List.getElem_concat_length]
    exact ReadsIn.mono hu (by simp +contextual)

theorem own_us0 (h : Own B w0 W rs) : Own B w0 W (usR [] :: rs) := Own.shut (rs := []) h
theorem own_usadd {u : Value} {l : List Rq} {us : List (Value × List Rq)} (h : Own B w0 W (usR us :: cpR u l :: rs)) : Own B w0 W (usR (us ++ [(u, l)]) :: rs) := by
  have h1 : Own B w0 W (us.map (fun u => cpR u.1 u.2) ++ (cpR u l :: rs)) := h.open
  refine Own.shut ?_
  rw [List.map_append, List.append_assoc]
  exact h1

/-- What was owned is only read from now on. -/
theorem own_freeze {r : Res} {P : World → List Nat → Prop} {d} (h : Own B w0 W (r :: rs)) (hr : ∀ D, r.Q W D → ∃ D', P W D' ∧ ∀ k ∈ D', k ∈ r.M ∨ k ∈ D) : Own B w0 W (imm P d :: rs) := by
  obtain ⟨D, q1, q2, q3⟩ := h.head
  obtain ⟨D', p1, p2⟩ := hr D q1
  have hap := List.pairwise_cons.1 h.apart
  refine h.drop.new (Upd.refl [] _) ⟨D', ⟨p1, fun k hk => r.lt q1 k (p2 k hk)⟩, fun k hk hn => ?_, fun k hk => h.drop.lt k hk⟩ (by simp [imm])
  rcases p2 k hk with hk | hk
  · obtain ⟨s, hs, hm⟩ := (Ms_iff _ _).1 hn
    exact hap.1 s hs k hk hm
  · exact q2 k hk ((Ms_cons _ _ _).2 (.inr hn))

theorem own_bsR {v : Value} {vals : List Value} {bs : List (List Rq)} (h : Own B w0 W (lsR v bs.length vals :: bR vals bs :: rs)) : Own B w0 W (bsR v bs :: rs) := by
  have h1 := own_freeze (P := fun w D => ReadsIn w v 1 bs.length vals D) (d := fun a hk hs => a.dep hk hs) h (fun D q => by
    obtain ⟨q1, rfl⟩ := q
    exact ⟨blkOf v, ⟨own_reads q1, fun _ k hk => hk⟩, fun k hk => .inl hk⟩)
  refine own_join h1 ?_
  rintro D D1 hr ⟨-, hb⟩
  exact ⟨vals, hr.mono (by simp +contextual), fun k hk => let ⟨u, e, hu⟩ := hb k hk; ⟨u, e, ReadsIn.mono hu (by simp +contextual)⟩⟩

theorem us_bat {us : List (Value × List Rq)} (h : Own B w0 W (usR us :: rs)) (k : Nat) (hk : k < us.length) : Bat W us[k].1 us[k].2 := by
  have h1 : Own B w0 W (us.map (fun u => cpR u.1 u.2) ++ rs) := h.open
  exact cpR_bat (h1.all (cpR us[k].1 us[k].2) (List.mem_append_left _ (List.mem_map.2 ⟨us[k], by simp, rfl⟩))).1

theorem own_bsAt {v : Value} {us : List (Value × List Rq)} (h : Own B w0 W (lsR v us.length (us.map (·.1)) :: usR us :: rs)) : BsAt W v (us.map (·.2)) := by
  have h1 := own_reads (ownR_owns h.head)
  obtain ⟨ao, cap, e, -, -, -, -, h5⟩ := h1
  refine ⟨ao, cap, by rw [e]; simp, fun k hk => ?_⟩
  have hk' : k < us.length := by simpa using hk
  obtain ⟨b, o, rfl, hb, hc⟩ := h5 (by omega)
  refine ⟨b, o, us[k].1, rfl, hb, by rw [hc k (by omega)]; simp [hk'], ?_⟩
  have := us_bat h.drop k hk'
  simpa using this

theorem own_rows {us : List (Value × List Rq)} (h : Own B w0 W (usR us :: rs)) : Own B w0 W (rwR us :: rs) := by
  have hM : ∀ us : List (Value × List Rq), Ms (us.map fun u => rowR 32 6 u.1 u.2.length) = Ms (us.map fun u => cpR u.1 u.2) := fun us => by simp [Ms, List.flatMap_map, rowR, cpR]
  obtain ⟨D, ⟨q1, q2, q3⟩, h2, h3⟩ := h.head
  refine h.alter (r' := rwR us) ⟨D, ⟨fun r hr => ?_, ?_, fun k hk => by rw [hM]; exact q3 k hk⟩, h2, h3⟩ (fun k hk => by
    have : k ∈ Ms (us.map fun u => rowR 32 6 u.1 u.2.length) := hk
    rw [hM] at this
    exact this)
  · obtain ⟨u, hu, rfl⟩ := List.mem_map.1 hr
    obtain ⟨D', p1, p2⟩ := q1 (cpR u.1 u.2) (List.mem_map.2 ⟨u, hu, rfl⟩)
    obtain ⟨p1, rfl⟩ := p1
    refine ⟨[], ⟨?_, rfl⟩, by simp⟩
    rcases p1.2 with hn | ⟨g, cap, cur, e, hb, hg, r1, r2, r3, r4⟩
    · exact .inl hn
    · exact .inr ⟨g, cap, cur, e, hg, r1, r2, r3⟩
  · rw [List.pairwise_map] at q2 ⊢
    exact q2

theorem rw_row {us : List (Value × List Rq)} (h : Own B w0 W (rwR us :: rs)) (k : Nat) (hk : k < us.length) : (rowR 32 6 us[k].1 us[k].2.length).At W (Ms (us.map (fun u => rowR 32 6 u.1 u.2.length) ++ rs)) := by
  have h1 : Own B w0 W (us.map (fun u => rowR 32 6 u.1 u.2.length) ++ rs) := h.open
  exact (h1.all _ (List.mem_append_left _ (List.mem_map.2 ⟨us[k], by simp, rfl⟩))).1

theorem row_put6 {E sz n cap g : Nat} (h : Own B w0 w (rowR E sz (.slice (some ⟨g, 0, none⟩) n cap) n :: rs)) (j0 j1 j2 j3 j4 j5 : Nat) (v0 v1 v2 v3 v4 v5 : Value) :
    Own B w0 ((((((w.setCell ⟨g, j0, none⟩ v0).setCell ⟨g, j1, none⟩ v1).setCell ⟨g, j2, none⟩ v2).setCell ⟨g, j3, none⟩ v3).setCell ⟨g, j4, none⟩ v4).setCell ⟨g, j5, none⟩ v5) (rowR E sz (.slice (some ⟨g, 0, none⟩) n cap) n :: rs) :=
  h.step (r' := rowR E sz (.slice (some ⟨g, 0, none⟩) n cap) n) ((((((((Upd.refl _ _).setCell (.inl (by simp [rowR, blkOf])) _).setCell (.inl (by simp [rowR, blkOf])) _).setCell (.inl (by simp [rowR, blkOf])) _).setCell (.inl (by simp [rowR, blkOf])) _).setCell (.inl (by simp [rowR, blkOf])) _).setCell (.inl (by simp [rowR, blkOf])) _)) (row_set (row_set (row_set (row_set (row_set (row_set h.head _ _) _ _) _ _) _ _) _ _) _ _) (fun _ hk => .inl hk)

theorem rw_put6 {us : List (Value × List Rq)} (h : Own B w0 W (rwR us :: rs)) (k : Nat) (hk : k < us.length) {g cap : Nat} (e : us[k].1 = .slice (some ⟨g, 0, none⟩) us[k].2.length cap) (j0 j1 j2 j3 j4 j5 : Nat) (v0 v1 v2 v3 v4 v5 : Value) :
    Own B w0 ((((((W.setCell ⟨g, j0, none⟩ v0).setCell ⟨g, j1, none⟩ v1).setCell ⟨g, j2, none⟩ v2).setCell ⟨g, j3, none⟩ v3).setCell ⟨g, j4, none⟩ v4).setCell ⟨g, j5, none⟩ v5) (rwR us :: rs) := by
  have h1 : Own B w0 W ([] ++ (us.map (fun u => rowR 32 6 u.1 u.2.length) ++ rs)) := h.open
  have h2 := h1.pick k hk
  rw [e] at h2
  have h3 := row_put6 h2 j0 j1 j2 j3 j4 j5 v0 v1 v2 v3 v4 v5
  rw [← e] at h3
  have h4 := Own.unpick (f := fun u : Value × List Rq => rowR 32 6 u.1 u.2.length) (x := us[k]) k hk h3
  rw [List.set_getElem_self] at h4
  exact Own.shut h4

/-! ### Beside both -/

theorem ab_two {r1 r2 r : Res} (h : AtB B w0 W i st p sd (r1 :: r2 :: ss)) (f : ∀ rs, Own B w0 W (r1 :: r2 :: rs) → Own B w0 W (r :: rs)) : AtB B w0 W i st p sd (r :: ss) := by
  obtain ⟨x, a, m, e1, e2, o⟩ := h
  exact ⟨x, a, m, e1, e2, (f _ (o.perm ((List.perm_append_comm (l₁ := [_, _, _]) (l₂ := [r1, r2])).append_right ss))).perm3⟩

theorem ab_install {v : Value} {us : List (Value × List Rq)} (h : AtB B w0 W i st p sd (lsR v us.length (us.map (·.1)) :: usR us :: ss)) (hbn : ∀ u ∈ us, u.2.length ≤ 100000) (hmx : us.length ≤ 1000) :
    Calls Try.prog 44 #[.pointer (some ⟨i, 0, none⟩), v] W fun e w' => e = .returned (.bool (instB st us.length)) ∧ AtB B w0 w' i (installI st (us.map (·.2))) p sd (lsR v us.length (us.map (·.1)) :: usR us :: ss) := by
  obtain ⟨a, m, hx⟩ := ab_x h
  refine (ai_install_any (bs := us.map (·.2)) hx (fun w ho => own_bsAt ho.drop.drop) (fun b hb => by obtain ⟨u, hu, rfl⟩ := List.mem_map.1 hb; exact hbn u hu) (by simpa using hmx)).mono ?_
  rintro e w' ⟨he, h2⟩
  rw [List.length_map] at he
  exact ⟨he, ab_ofx h2⟩

end
end Go.Proofs.Ytdeadekeffficaa

/- psephoslaw15.do. -/
namespace Go.Proofs.Ytdeadekeffficaa
open Go.RowKit Go.Heap

/-- Behind an act. -/
def DoP (B : Nat) (w0 : World) (i : Nat) (st : In) (p : Nat) (sd : In) (a : A7) (v : Value) (n : Nat) (ss : List Res) (ok : Value) (w : World) : Prop :=
  ∃ t, ok = .bool t ∧ (st = sd → t = true) ∧ AtB B w0 w i (stepI st a) p (stepI sd a) (rowR 32 6 v n :: ss)

section
variable {B : Nat} {w0 W W' : World} {ss : List Res} {i p : Nat} {st sd : In} {r : Res} {a : A7}

theorem step_pre (h : a.act % 15 < 3) (st : In) : stepI st a = preI st a.seq (bt a.which) := by unfold stepI; rw [if_pos h]
theorem step_vote (h1 : ¬ a.act % 15 < 3) (h2 : a.act % 15 < 10) (st : In) : stepI st a = voteI st a.kind a.seq a.node a.sl (bt a.which) := by unfold stepI; rw [if_neg h1, if_pos h2]
theorem step_prep (h : a.act % 15 = 10) (st : In) : stepI st a = preparedI st a.seq := by unfold stepI; rw [if_neg (by omega), if_neg (by omega), if_pos h]
theorem step_comm (h : a.act % 15 = 11) (st : In) : stepI st a = commitsI st a.seq := by unfold stepI; rw [if_neg (by omega), if_neg (by omega), if_neg (by omega), if_pos h]
theorem step_adopt (h : a.act % 15 = 12) (st : In) : stepI st a = adoptI st ⟨a.view, a.kind, a.seq, bt a.which, [(1, a.sl)]⟩ := by unfold stepI; rw [if_neg (by omega), if_neg (by omega), if_neg (by omega), if_neg (by omega), if_pos h]
theorem step_leave (h : a.act % 15 = 13) (st : In) : stepI st a = leaveI st a.view := by unfold stepI; rw [if_neg (by omega), if_neg (by omega), if_neg (by omega), if_neg (by omega), if_neg (by omega), if_pos h]
theorem step_inst (h1 : ¬ a.act % 15 < 10) (h2 : a.act % 15 ≠ 10) (h3 : a.act % 15 ≠ 11) (h4 : a.act % 15 ≠ 12) (h5 : a.act % 15 ≠ 13) (st : In) : stepI st a = installI st (btsOf a (a.seq % 19).toNat) := by
  unfold stepI; rw [if_neg (by omega), if_neg h1, if_neg h2, if_neg h3, if_neg h4, if_neg h5]

theorem doP_of {v : Value} {l : List Rq} {b : Nat} {t : Bool} {st' sd' : In} (hs : stepI st a = st') (hd : stepI sd a = sd') (ht : st = sd → t = true) (h : AtB B w0 W i st' p sd' (cpR v l :: blk b (a7O a) :: ss)) : DoP B w0 i st p sd a v l.length ss (.bool t) W := by
  subst hs hd
  exact ⟨t, rfl, ht, ab_turn (ab_drop (ab_perm h (.swap _ _ _))) (fun rs q => q.alter (r' := rowR 32 6 v l.length) (cpR_row q.head) (fun k hk => hk))⟩

theorem ab_a7 {b : Nat} (h : AtB B w0 W i st p sd (r :: blk b (a7O a) :: ss)) : W.heap[b]? = some (a7O a) := h.ss_own.drop.blk_out
theorem ab_cpbat {v : Value} {l : List Rq} (h : AtB B w0 W i st p sd (cpR v l :: ss)) : Bat W v l := cpR_bat h.ss_own.head

abbrev voO (sl : Int) : Obj := .cells #[.int .i64 1, .int .i64 sl] 44 (0, 0)
theorem vts_one {w : World} {b : Nat} {sl : Int} (h : w.heap[b]? = some (voO sl)) : Vts w (.slice (some ⟨b, 0, none⟩) 1 1) [(1, sl)] :=
  own_reads (B := 0) (E := 44) (sz := 2) ⟨rfl, .inr ⟨b, 1, _, rfl, Nat.zero_le _, h, by simp, by unfold maxLen; omega, rfl, rfl⟩⟩

/-- A certificate's parts in new memory come beside. -/
theorem ab_parts {vb vv : Value} {rs : List Rq} {vs : Vs} (h : AtB B w0 W i st p sd ss) (hu : Upd [] W W') (hb : Bat W' vb rs) (hv : Vts W' vv vs) (n1 : ∀ k ∈ blkOf vb, W.heap.size ≤ k) (n2 : ∀ k ∈ blkOf vv, W.heap.size ≤ k) :
    AtB B w0 W' i st p sd (batR vb rs :: votR vv vs :: ss) := by
  obtain ⟨x, a, m, e1, e2, o⟩ := h
  have h2 : Own B w0 W' (votR vv vs :: batR vb rs :: instR x :: docB p a m :: docI a m sd :: ss) := own_red2 o hu hb hv n1 n2
  exact ⟨x, a, m, e1, e2, (h2.perm ((List.perm_append_comm (l₁ := [_, _]) (l₂ := [_, _, _])).append_right ss)).perm ((((List.Perm.swap _ _ _).cons _).cons _).cons _)⟩

def DoE (B : Nat) (w0 : World) (i : Nat) (st : In) (p : Nat) (sd : In) (a : A7) (ss : List Res) (e : Ending) (w' : World) : Prop := ∃ t, e = .returned (.bool t) ∧ (st = sd → t = true) ∧ AtB B w0 w' i (stepI st a) p (stepI sd a) ss

theorem bts_succ (a : A7) (k : Nat) : btsOf a (k + 1) = btsOf a k ++ [bt (IntKind.i64.wrap (a.which + (k : Int)))] := by simp [btsOf, List.range_succ]
theorem one_slice {ao : Option Addr} {n c : Nat} : ∀ u ∈ [Value.slice ao n c], u.oneCell' = true := by simp [Value.oneCell']
theorem ls_cell {ao : Option Addr} {k c r : Nat} {us : List (Value × List Rq)} (h : AtB B w0 W i st p sd (lsR (.slice ao k c) k (us.map (·.1)) :: ss)) (hr : r < k) (hru : r < us.length) : ∃ b o, ao = some ⟨b, o, none⟩ ∧ b < W.heap.size ∧ W.cell? ⟨b, o + r, none⟩ = some us[r].1 := by
  obtain ⟨ao', cap', e, -, -, -, -, h5⟩ := own_reads (ownR_owns h.ss_own.head)
  cases e
  obtain ⟨b, o, rfl, hb, hc⟩ := h5 (by omega)
  exact ⟨b, o, rfl, hb, by rw [hc r (by omega)]; simp [hru]⟩

set_option maxHeartbeats 8000000 in
set_option maxRecDepth 100000 in
theorem do15_any (a : A7) (h : AtB B w0 W i st p sd ss) :
    Calls Try.prog 49 #[.pointer (some ⟨i, 0, none⟩), .pointer (some ⟨p, 0, none⟩), a7Agg a] W (DoE B w0 i st p sd a ss) := by
  have H1 := Lib.hid (ab_box h (a7O a))
  have hbl := bt_len a.which
  clear h
  go_enter Try.func49, Try.ntmps49
  go_wp2_with fail
  refine (batch15_any a.which _).mono ?_
  rintro e w1 ⟨v1, rfl, hu1, ho1⟩
  have H2 := Lib.hid (ab_cp H1.out hu1 ho1)
  obtain ⟨ao, cap, rfl⟩ := bat_form (own_reads ho1)
  clear hu1 ho1 H1
  obtain ⟨b0, b1, b2, b3, b4, b5, b6⟩ := a7_box (ab_a7 H2.out)
  go_wp2_with fail
  refine (Within_any a.act 15 _ (by omega) (by omega)).mono ?_
  rintro e w' ⟨rfl, rfl⟩
  obtain ⟨k1, k2⟩ := emod_in a.act 15 (by omega)
  have SP := Lib.hid (@step_pre a)
  have SV := Lib.hid (@step_vote a)
  have SR := Lib.hid (@step_prep a)
  have SC := Lib.hid (@step_comm a)
  have SA := Lib.hid (@step_adopt a)
  have SL := Lib.hid (@step_leave a)
  have SI := Lib.hid (@step_inst a)
  generalize W.heap.size = bx at *
  generalize a.act % 15 = k at *
  go_upto_block 0 with fail
  go_cut [8] (fun ok wx => Hid (DoP B w0 i st p sd a (.slice ao (bt a.which).length cap) (bt a.which).length ss ok wx))
  case first =>
    have T2 := Lib.hid (ab_cpbat H2.out)
    by_cases hk3 : k < 3
    · have hkb : decide (k < 3) = true := by simp [hk3]
      have S1 := Lib.hid (SP.out hk3)
      have HX := Lib.hid (ab_pre H2.out.drew a.seq (.slice ao (bt a.which).length cap) (bt a.which) T2.out (by omega))
      clear hk3 k1 k2 SP SV SR SC SA SL SI b0 b2 b3 b4 b6
      go_upto_region 21 with fail
      have d1 : w1.drew.cell? ⟨bx, 1, none⟩ = some (.int .i64 a.seq) := b1
      have d5 : w1.drew.cell? ⟨bx, 5, none⟩ = some (.int .i64 a.which) := b5
      go_region_held3 (fun w' => w'.cell? ⟨bx, 1, none⟩ = some (.int .i64 a.seq) ∧ w'.cell? ⟨bx, 5, none⟩ = some (.int .i64 a.which))
        (first | (with_reducible exact ⟨d1, d5⟩) | (with_reducible exact ⟨e1, e5⟩) | (with_reducible exact ⟨f1, f5⟩) | (with_reducible exact ⟨g1, g5⟩))
        (first
          | (go_at_call 40; refine HX.out.mono ?_; rintro e w4 ⟨rfl, h4⟩; have H4 := Lib.hid h4; clear h4; obtain ⟨-, e1, -, -, -, e5, -⟩ := a7_box (ab_a7 H4.out))
          | (go_at_call 69; refine (batch15_any a.which _).mono ?_; rintro e w5 ⟨v5, rfl, hu5, ho5⟩; have H5 := Lib.hid (ab_bat H4.out hu5 ho5); obtain ⟨ao5, cap5, rfl⟩ := bat_form (own_reads ho5); clear hu5 ho5; obtain ⟨-, f1, -, -, -, f5, -⟩ := a7_box (ab_a7 (ab_drop H5.out)))
          | (go_at_call 70; refine (ab_dpre H5.out a.seq (by omega)).mono ?_; rintro e w6 ⟨rfl, h6⟩; have H6 := Lib.hid h6; clear h6; obtain ⟨-, g1, -, -, -, g5, -⟩ := a7_box (ab_a7 H6.out)))
      all_goals
        go_wp2_with fail
        go_meet
        exact Lib.hid (doP_of (S1.out st) (S1.out sd) (fun e => by rw [e]; simp) H6.out)
    · have hkb : decide (k < 3) = false := by simp; omega
      by_cases hk10 : k < 10
      · have hkc : decide (k < 10) = true := by simp [hk10]
        have S1 := Lib.hid (SV.out (by omega) hk10)
        have HX := Lib.hid (ab_vote H2.out.drew a.kind a.seq a.node a.sl (.slice ao (bt a.which).length cap) (bt a.which) T2.out (by omega))
        clear hk3 hk10 k1 k2 SP SV SR SC SA SL SI b0 b6
        go_upto_region 23 with fail
        have d1 : w1.drew.cell? ⟨bx, 1, none⟩ = some (.int .i64 a.seq) := b1
        have d2 : w1.drew.cell? ⟨bx, 2, none⟩ = some (.int .i64 a.kind) := b2
        have d3 : w1.drew.cell? ⟨bx, 3, none⟩ = some (.int .i64 a.node) := b3
        have d4 : w1.drew.cell? ⟨bx, 4, none⟩ = some (.int .i64 a.sl) := b4
        have d5 : w1.drew.cell? ⟨bx, 5, none⟩ = some (.int .i64 a.which) := b5
        go_region_held3 (fun w' => w'.cell? ⟨bx, 1, none⟩ = some (.int .i64 a.seq) ∧ w'.cell? ⟨bx, 2, none⟩ = some (.int .i64 a.kind) ∧ w'.cell? ⟨bx, 3, none⟩ = some (.int .i64 a.node) ∧ w'.cell? ⟨bx, 4, none⟩ = some (.int .i64 a.sl) ∧ w'.cell? ⟨bx, 5, none⟩ = some (.int .i64 a.which))
          (first | (with_reducible exact ⟨d1, d2, d3, d4, d5⟩) | (with_reducible exact ⟨e1, e2, e3, e4, e5⟩) | (with_reducible exact ⟨f1, f2, f3, f4, f5⟩) | (with_reducible exact ⟨g1, g2, g3, g4, g5⟩))
          (first
            | (go_at_call 35; refine HX.out.mono ?_; rintro e w4 ⟨rfl, h4⟩; have H4 := Lib.hid h4; clear h4; obtain ⟨-, e1, e2, e3, e4, e5, -⟩ := a7_box (ab_a7 H4.out))
            | (go_at_call 69; refine (batch15_any a.which _).mono ?_; rintro e w5 ⟨v5, rfl, hu5, ho5⟩; have H5 := Lib.hid (ab_bat H4.out hu5 ho5); obtain ⟨ao5, cap5, rfl⟩ := bat_form (own_reads ho5); clear hu5 ho5; obtain ⟨-, f1, f2, f3, f4, f5, -⟩ := a7_box (ab_a7 (ab_drop H5.out)))
            | (go_at_call 71; refine (ab_dvote H5.out a.kind a.seq a.node a.sl (by omega)).mono ?_; rintro e w6 ⟨rfl, h6⟩; have H6 := Lib.hid h6; clear h6; obtain ⟨-, g1, g2, g3, g4, g5, -⟩ := a7_box (ab_a7 H6.out)))
        all_goals
          go_wp2_with fail
          go_meet
          exact Lib.hid (doP_of (S1.out st) (S1.out sd) (fun e => by rw [e]; simp) H6.out)
      · have hkc : decide (k < 10) = false := by simp; omega
        by_cases e10 : k = 10
        · have q10 : (k == 10) = true := by simp [e10]
          have S1 := Lib.hid (SR.out e10)
          clear hk3 hk10 k1 k2 SP SV SR SC SA SL SI b0 b2 b3 b4 b5 b6 e10
          have HX := Lib.hid (ab_prepared H2.out a.seq)
          go_wp2_with fail
          refine HX.out.mono ?_
          rintro e w4 ⟨⟨view, inst, seq, vb, vv, rs, vs⟩, rfl, hcp, hsz, h4⟩
          simp only at hsz h4
          obtain ⟨vo, vcp, rfl⟩ := vts_form (redR_out h4.ss_own.head)
          obtain ⟨bo, bcp, rfl⟩ := bat_form (batR_out h4.ss_own.drop.head)
          have H4 := Lib.hid (ab_box h4 (ctO view inst seq (.slice bo rs.length bcp) (.slice vo vs.length vcp)))
          have HCP := Lib.hid hcp
          have HSZ := Lib.hid hsz
          clear h4 hcp hsz b1 HX T2 H2
          have hbb := a7_box (ab_a7 (ab_drop (ab_drop (ab_drop H4.out))))
          obtain ⟨-, b1, -⟩ := hbb
          go_wp2_with fail
          refine (ab_dprepared H4.out a.seq).mono ?_
          rintro e w5 ⟨⟨view', inst', seq', ub, uv, rs', vs'⟩, rfl, hcp', hsz', hb5, hv5, h5⟩
          simp only at hsz' hb5 hv5
          obtain ⟨uo, ucp, rfl⟩ := vts_form hv5
          obtain ⟨eo, ecp, rfl⟩ := bat_form hb5
          have hxo := h5.ss_own.blk_out
          obtain ⟨f0, f1, f2, f3, f4, fl, -⟩ := ct_cells (ab_box h5 (ctO view' inst' seq' (.slice eo rs'.length ecp) (.slice uo vs'.length ucp))).ss_own.drop.blk_out
          obtain ⟨g0, g1, g2, g3, g4, gl, -⟩ := ct_cells (ab_box h5 (ctO view' inst' seq' (.slice eo rs'.length ecp) (.slice uo vs'.length ucp))).ss_own.blk_out
          have H5 := Lib.hid (ab_box h5 (ctO view' inst' seq' (.slice eo rs'.length ecp) (.slice uo vs'.length ucp)))
          have HC := Lib.hid (keepCert_dec ⟨view, inst, seq, .slice bo rs.length bcp, .slice vo vs.length vcp, rs, vs⟩ ⟨view', inst', seq', .slice eo rs'.length ecp, .slice uo vs'.length ucp, rs', vs'⟩ _ HSZ.out.1 HSZ.out.2 hsz'.1 hsz'.2 (batR_out H5.out.ss_own.drop.drop.drop.head) (redR_out H5.out.ss_own.drop.drop.head) (hb5.upd (M := []) ((Upd.refl _ _).alloc _) (by simp)) (Reads.upd (M := []) hv5 ((Upd.refl _ _).alloc _) (by simp)))
          have HCQ := Lib.hid hcp'
          generalize hw5 : w5.alloc (ctO view' inst' seq' (.slice eo rs'.length ecp) (.slice uo vs'.length ucp)) = w6 at *
          clear hxo h5 hb5 hv5 hcp' hsz' b1 H4
          have HEQ := Lib.hid (fun e : st = sd => show ((prepI st a.seq).isSome == (prepI sd a.seq).isSome) = true by rw [e]; simp)
          generalize (prepI st a.seq).isSome = is1 at *
          generalize (prepI sd a.seq).isSome = is2 at *
          cases hq : (is1 == is2) with
          | false =>
            rw [hq] at HEQ
            subst hw5
            go_wp2_with fail
            go_meet
            exact Lib.hid (doP_of (S1.out st) (S1.out sd) (fun e => HEQ.out e) (ab_drop (ab_drop (ab_drop (ab_drop H5.out)))))
          | true =>
            subst hw5
            go_wp2_with fail
            refine HC.out.mono ?_
            rintro e w7 ⟨rfl, hu7⟩
            have H7 := Lib.hid (H5.out.upd0 hu7)
            clear hu7 f0 f1 f2 f3 f4 fl g0 g1 g2 g3 g4 gl HC
            go_wp2_with fail
            go_meet
            exact Lib.hid (doP_of (S1.out st) (S1.out sd) (fun e => decide_eq_true (by rw [HCP.out, HCQ.out, e])) (ab_drop (ab_drop (ab_drop (ab_drop H7.out)))))
        · have q10 : (k == 10) = false := by simp [e10]
          by_cases e11 : k = 11
          · have q11 : (k == 11) = true := by simp [e11]
            have S1 := Lib.hid (SC.out e11)
            clear hk3 hk10 k1 k2 SP SV SR SC SA SL SI b0 b2 b3 b4 b5 b6 e10 e11
            have HX := Lib.hid (ab_commits H2.out a.seq)
            go_wp2_with fail
            refine HX.out.mono ?_
            rintro e w4 ⟨⟨view, inst, seq, vb, vv, rs, vs⟩, rfl, hcp, hsz, h4⟩
            simp only at hsz h4
            obtain ⟨vo, vcp, rfl⟩ := vts_form (redR_out h4.ss_own.head)
            obtain ⟨bo, bcp, rfl⟩ := bat_form (batR_out h4.ss_own.drop.head)
            have H4 := Lib.hid (ab_box h4 (ctO view inst seq (.slice bo rs.length bcp) (.slice vo vs.length vcp)))
            have HCP := Lib.hid hcp
            have HSZ := Lib.hid hsz
            clear h4 hcp hsz b1 HX T2 H2
            have hbb := a7_box (ab_a7 (ab_drop (ab_drop (ab_drop H4.out))))
            obtain ⟨-, b1, -⟩ := hbb
            go_wp2_with fail
            refine (ab_dcommits H4.out a.seq).mono ?_
            rintro e w5 ⟨⟨view', inst', seq', ub, uv, rs', vs'⟩, rfl, hcp', hsz', hb5, hv5, h5⟩
            simp only at hsz' hb5 hv5
            obtain ⟨uo, ucp, rfl⟩ := vts_form hv5
            obtain ⟨eo, ecp, rfl⟩ := bat_form hb5
            have hxo := h5.ss_own.blk_out
            obtain ⟨f0, f1, f2, f3, f4, fl, -⟩ := ct_cells (ab_box h5 (ctO view' inst' seq' (.slice eo rs'.length ecp) (.slice uo vs'.length ucp))).ss_own.drop.blk_out
            obtain ⟨g0, g1, g2, g3, g4, gl, -⟩ := ct_cells (ab_box h5 (ctO view' inst' seq' (.slice eo rs'.length ecp) (.slice uo vs'.length ucp))).ss_own.blk_out
            have H5 := Lib.hid (ab_box h5 (ctO view' inst' seq' (.slice eo rs'.length ecp) (.slice uo vs'.length ucp)))
            have HC := Lib.hid (keepCert_dec ⟨view, inst, seq, .slice bo rs.length bcp, .slice vo vs.length vcp, rs, vs⟩ ⟨view', inst', seq', .slice eo rs'.length ecp, .slice uo vs'.length ucp, rs', vs'⟩ _ HSZ.out.1 HSZ.out.2 hsz'.1 hsz'.2 (batR_out H5.out.ss_own.drop.drop.drop.head) (redR_out H5.out.ss_own.drop.drop.head) (hb5.upd (M := []) ((Upd.refl _ _).alloc _) (by simp)) (Reads.upd (M := []) hv5 ((Upd.refl _ _).alloc _) (by simp)))
            have HCQ := Lib.hid hcp'
            generalize hw5 : w5.alloc (ctO view' inst' seq' (.slice eo rs'.length ecp) (.slice uo vs'.length ucp)) = w6 at *
            clear hxo h5 hb5 hv5 hcp' hsz' b1 H4
            have HEQ := Lib.hid (fun e : st = sd => show ((commI st a.seq).isSome == (commI sd a.seq).isSome) = true by rw [e]; simp)
            generalize (commI st a.seq).isSome = is1 at *
            generalize (commI sd a.seq).isSome = is2 at *
            cases hq : (is1 == is2) with
            | false =>
              rw [hq] at HEQ
              subst hw5
              go_wp2_with fail
              go_meet
              exact Lib.hid (doP_of (S1.out st) (S1.out sd) (fun e => HEQ.out e) (ab_drop (ab_drop (ab_drop (ab_drop H5.out)))))
            | true =>
              subst hw5
              go_wp2_with fail
              refine HC.out.mono ?_
              rintro e w7 ⟨rfl, hu7⟩
              have H7 := Lib.hid (H5.out.upd0 hu7)
              clear hu7 f0 f1 f2 f3 f4 fl g0 g1 g2 g3 g4 gl HC
              go_wp2_with fail
              go_meet
              exact Lib.hid (doP_of (S1.out st) (S1.out sd) (fun e => decide_eq_true (by rw [HCP.out, HCQ.out, e])) (ab_drop (ab_drop (ab_drop (ab_drop H7.out)))))
          · have q11 : (k == 11) = false := by simp [e11]
            by_cases e12 : k = 12
            · have q12 : (k == 12) = true := by simp [e12]
              have S1 := Lib.hid (SA.out e12)
              clear hk3 hk10 k1 k2 SP SV SR SC SA SL SI b0 b3 b5 e10 e11 e12
              have h3 := ab_box (ab_box (ab_box H2.out (voO a.sl)) (ctO a.view a.kind a.seq (.slice ao (bt a.which).length cap) (.slice (some ⟨w1.heap.size, 0, none⟩) 1 1))) (ctO a.view a.kind a.seq (.slice ao (bt a.which).length cap) (.slice (some ⟨w1.heap.size, 0, none⟩) 1 1))
              simp only [hs_alloc] at h3
              have H3 := Lib.hid h3
              clear h3
              have HCC := Lib.hid (copyCerts_one ⟨a.view, a.kind, a.seq, .slice ao (bt a.which).length cap, .slice (some ⟨w1.heap.size, 0, none⟩) 1 1, bt a.which, [(1, a.sl)]⟩ (w1.heap.size + 1 + 1) _ H3.out.ss_own.blk_out (by simp only; omega) (by simp) (T2.out.upd (M := []) ((((Upd.refl _ _).alloc _).alloc _).alloc _) (by simp)) (vts_one H3.out.ss_own.drop.drop.blk_out))
              go_wp2_with fail
              refine HCC.out.mono ?_
              rintro e w4 ⟨out, rfl, g', cap', ⟨view', inst', seq', ub, uv, rs', vs'⟩, rfl, hu4, hcp, hlg, hcell, hb4, hv4, n1, n2⟩
              simp only at hb4 hv4 n1 n2
              obtain ⟨uo, ucp, rfl⟩ := vts_form hv4
              obtain ⟨eo, ecp, rfl⟩ := bat_form hb4
              have hsz : rs' = bt a.which ∧ vs' = [(1, a.sl)] := by
                simp only [Ct.cp, Cp.mk.injEq] at hcp
                exact ⟨hcp.2.2.2.1, hcp.2.2.2.2⟩
              have hs1 : rs'.length ≤ 100000 := by rw [hsz.1]; omega
              have hs2 : vs'.length ≤ 100000 := by rw [hsz.2]; simp
              have y0 : w4.cell? ⟨g', 0, none⟩ = some (.int .i64 view') := hcell 0 (by omega)
              have y1 : w4.cell? ⟨g', 1, none⟩ = some (.int .i64 inst') := hcell 1 (by omega)
              have y2 : w4.cell? ⟨g', 2, none⟩ = some (.int .i64 seq') := hcell 2 (by omega)
              have y3 : w4.cell? ⟨g', 3, none⟩ = some (.slice eo rs'.length ecp) := hcell 3 (by omega)
              have y4 : w4.cell? ⟨g', 4, none⟩ = some (.slice uo vs'.length ucp) := hcell 4 (by omega)
              have H4 := Lib.hid (ab_perm (ab_box (ab_parts H3.out hu4 hb4 hv4 n1 n2) (ctO view' inst' seq' (.slice eo rs'.length ecp) (.slice uo vs'.length ucp))) (((List.Perm.swap _ _ _).trans ((List.Perm.swap _ _ _).cons _))))
              have HCP := Lib.hid hcp
              have TB := Lib.hid ((T2.out.upd (M := []) ((((Upd.refl _ _).alloc _).alloc _).alloc _) (by simp)).upd (M := []) hu4 (by simp))
              clear hu4 hcp hcell hb4 hv4 n1 n2 b1 b2 b4 b6 H3 HCC hsz H2 T2
              have hx9 := H4.out.ss_own.drop.drop
              obtain ⟨f0, f1, f2, f3, f4, fl, -⟩ := ct_cells hx9.blk_out
              obtain ⟨g0, g1, g2, g3, g4, gl, -⟩ := ct_cells hx9.drop.drop.blk_out
              clear hx9
              go_upto_region 35 with fail
              generalize hw5 : w4.alloc (ctO view' inst' seq' (.slice eo rs'.length ecp) (.slice uo vs'.length ucp)) = w5 at *
              have HX := Lib.hid (ab_adopt H4.out.drew ⟨a.view, a.kind, a.seq, .slice ao (bt a.which).length cap, .slice (some ⟨w1.heap.size, 0, none⟩) 1 1, bt a.which, [(1, a.sl)]⟩ (by subst hw5; exact TB.out.upd (M := []) (((Upd.refl _ _).alloc _).drew) (by simp)) (by simp only; omega) (vts_one H4.out.drew.ss_own.drop.drop.drop.drop.drop.blk_out) (by simp))
              generalize hbv : w1.heap.size = bv at *
              generalize hbd : w4.heap.size = bd at *
              have d0 : w5.drew.cell? ⟨bd, 0, none⟩ = some (.int .i64 view') := f0
              have d1 : w5.drew.cell? ⟨bd, 1, none⟩ = some (.int .i64 inst') := f1
              have d2 : w5.drew.cell? ⟨bd, 2, none⟩ = some (.int .i64 seq') := f2
              have d3 : w5.drew.cell? ⟨bd, 3, none⟩ = some (.slice eo rs'.length ecp) := f3
              have d4 : w5.drew.cell? ⟨bd, 4, none⟩ = some (.slice uo vs'.length ucp) := f4
              have c0 : w5.drew.cell? ⟨bv + 1, 0, none⟩ = some (.int .i64 a.view) := g0
              have c1 : w5.drew.cell? ⟨bv + 1, 1, none⟩ = some (.int .i64 a.kind) := g1
              have c2 : w5.drew.cell? ⟨bv + 1, 2, none⟩ = some (.int .i64 a.seq) := g2
              have c3 : w5.drew.cell? ⟨bv + 1, 3, none⟩ = some (.slice ao (bt a.which).length cap) := g3
              have c4 : w5.drew.cell? ⟨bv + 1, 4, none⟩ = some (.slice (some ⟨bv, 0, none⟩) 1 1) := g4
              clear f0 f1 f2 f3 f4 fl g0 g1 g2 g3 g4 gl y0 y1 y2 y3 y4 hlg
              go_region_held3 (fun w' => (w'.cell? ⟨bd, 0, none⟩ = some (.int .i64 view') ∧ w'.cell? ⟨bd, 1, none⟩ = some (.int .i64 inst') ∧ w'.cell? ⟨bd, 2, none⟩ = some (.int .i64 seq') ∧ w'.cell? ⟨bd, 3, none⟩ = some (.slice eo rs'.length ecp) ∧ w'.cell? ⟨bd, 4, none⟩ = some (.slice uo vs'.length ucp)) ∧
                  w'.cell? ⟨bv + 1, 0, none⟩ = some (.int .i64 a.view) ∧ w'.cell? ⟨bv + 1, 1, none⟩ = some (.int .i64 a.kind) ∧ w'.cell? ⟨bv + 1, 2, none⟩ = some (.int .i64 a.seq) ∧ w'.cell? ⟨bv + 1, 3, none⟩ = some (.slice ao (bt a.which).length cap) ∧ w'.cell? ⟨bv + 1, 4, none⟩ = some (.slice (some ⟨bv, 0, none⟩) 1 1))
                (first | (with_reducible exact ⟨⟨d0, d1, d2, d3, d4⟩, c0, c1, c2, c3, c4⟩) | (with_reducible exact ⟨⟨e0, e1, e2, e3, e4⟩, q0, q1, q2, q3, q4⟩) | (with_reducible exact ⟨⟨m0, m1, m2, m3, m4⟩, n0, n1, n2, n3, n4⟩))
                (first
                  | (go_at_call 39; refine HX.out.mono ?_; rintro e w6 ⟨rfl, h6⟩; have H6 := Lib.hid h6; have hx6 := h6.ss_own.drop.drop; clear h6; obtain ⟨e0, e1, e2, e3, e4, -, -⟩ := ct_cells hx6.blk_out; obtain ⟨q0, q1, q2, q3, q4, -, -⟩ := ct_cells hx6.drop.drop.blk_out; clear hx6)
                  | (go_at_call 75; refine (ab_dadopt ⟨view', inst', seq', .slice eo rs'.length ecp, .slice uo vs'.length ucp, rs', vs'⟩ H6.out hs1 hs2).mono ?_; rintro e w7 ⟨rfl, h7⟩; have H7 := Lib.hid h7; have hx7 := h7.ss_own; clear h7; obtain ⟨m0, m1, m2, m3, m4, -, -⟩ := ct_cells hx7.blk_out; obtain ⟨n0, n1, n2, n3, n4, -, -⟩ := ct_cells hx7.drop.drop.blk_out; clear hx7))
              all_goals
                have H8 := Lib.hid (ab_drop (ab_drop (ab_drop H7.out)))
                have hbv8 := H8.out.ss_own.blk_out
                have s0 : w7.cell? ⟨bv, 0, none⟩ = some (.int .i64 1) := by rw [block_cell hbv8]; rfl
                have s1 : w7.cell? ⟨bv, 1, none⟩ = some (.int .i64 a.sl) := by rw [block_cell hbv8]; rfl
                have z1 : w7.frozen? ⟨bv, 1, none⟩ = false := block_frozen hbv8 1
                clear hbv8
                go_wp2_with fail
                go_meet
                exact Lib.hid (doP_of (S1.out st) (by rw [S1.out sd, HCP.out]; rfl) (fun e => by rw [e, HCP.out]; simp [Ct.cp]) (ab_drop (ab_turn H8.out fun rs q => q.store 1 _)))

            · have q12 : (k == 12) = false := by simp [e12]
              by_cases e13 : k = 13
              · have q13 : (k == 13) = true := by simp [e13]
                have S1 := Lib.hid (SL.out e13)
                have HX := Lib.hid (ab_leave H2.out.drew a.view)
                clear hk3 hk10 k1 k2 SP SV SR SC SA SL SI b0 b1 b2 b3 b4 b5 e10 e11 e12 e13
                go_upto_region 38 with fail
                have d6 : w1.drew.cell? ⟨bx, 6, none⟩ = some (.int .i64 a.view) := b6
                go_region_held3 (fun w' => w'.cell? ⟨bx, 6, none⟩ = some (.int .i64 a.view))
                  (first | (with_reducible exact d6) | (with_reducible exact e6) | (with_reducible exact g6))
                  (first
                    | (go_at_call 41; refine HX.out.mono ?_; rintro e w4 ⟨rfl, h4⟩; have H4 := Lib.hid h4; clear h4; obtain ⟨-, -, -, -, -, -, e6⟩ := a7_box (ab_a7 H4.out))
                    | (go_at_call 76; refine (ab_dleave H4.out a.view).mono ?_; rintro e w6 ⟨rfl, h6⟩; have H6 := Lib.hid h6; clear h6; obtain ⟨-, -, -, -, -, -, g6⟩ := a7_box (ab_a7 H6.out)))
                all_goals
                  go_wp2_with fail
                  go_meet
                  exact Lib.hid (doP_of (S1.out st) (S1.out sd) (fun e => by rw [e]; simp) H6.out)
              · have q13 : (k == 13) = false := by simp [e13]
                have S1 := Lib.hid (SI.out (by omega) e10 e11 e12 e13)
                clear hk3 hk10 k1 k2 SP SV SR SC SA SL SI b0 b2 b3 b4 b6 e10 e11 e12 e13
                go_wp2_with fail
                refine (Within_any a.seq 19 _ (by omega) (by omega)).mono ?_
                rintro e w' ⟨rfl, rfl⟩
                obtain ⟨q1, q2⟩ := emod_in a.seq 19 (by omega)
                generalize a.seq % 19 = q at *
                obtain ⟨n, rfl⟩ : ∃ n : Nat, q = n := ⟨q.toNat, by omega⟩
                rw [Int.toNat_natCast] at S1
                obtain ⟨i0, hi, hz0, hz1, hz2⟩ := info_parts Try.infoBatch
                have H3 : Hid (AtB B w0 w1 i st p sd (lsR (.slice none 0 0) 0 [] :: usR [] :: lsR (.slice none 0 0) 0 [] :: bR [] [] :: cpR (.slice ao (bt a.which).length cap) (bt a.which) :: blk bx (a7O a) :: ss)) :=
                  Lib.hid (ab_new (ab_new (ab_new (ab_new H2.out (fun _ h => own_bR0 h)) (fun _ h => h.row0)) (fun _ h => own_us0 h)) (fun _ h => h.row0))
                clear H2 T2 b1 b5
                go_wp2_with fail
                go_loopw [21, 22, 23] (fun vl vm j wr => ∃ (k : Nat) (a1 : Option Addr) (c1 : Nat) (a2 : Option Addr) (c2 : Nat) (us : List (Value × List Rq)) (vals : List Value), k ≤ n ∧ j = .int .i64 k ∧ vl = .slice a1 k c1 ∧ vm = .slice a2 k c2 ∧ Hid (us.length = k ∧ us.map (·.2) = btsOf a k) ∧
                  Hid (AtB B w0 wr i st p sd (lsR (.slice a1 k c1) k (us.map (·.1)) :: usR us :: lsR (.slice a2 k c2) k vals :: bR vals (btsOf a k) :: cpR (.slice ao (bt a.which).length cap) (bt a.which) :: blk bx (a7O a) :: ss))) (fun _ _ j _ => n - (intOf j).toNat)
                case atStart => exact ⟨0, none, 0, none, 0, [], [], by omega, rfl, rfl, rfl, Lib.hid ⟨rfl, rfl⟩, H3⟩
                case round =>
                  clear H3
                  obtain ⟨k, a1, c1, a2, c2, us, vals, hk, rfl, rfl, rfl, HU, H3⟩ := hrel
                  by_cases hlt : k < n
                  · have hkI : (k : Int) < (n : Int) := by omega
                    have HO3 := Lib.hid (H3.out.drew.ss_own)
                    have hxb := (blk_out (H3.out.drew.ss_own.all (blk bx (a7O a)) (by simp)).1)
                    obtain ⟨-, -, -, -, -, d5, -⟩ := a7_box hxb
                    clear hxb
                    go_upto_region 9 with fail
                    go_region_held3 (fun w' => w'.cell? ⟨bx, 5, none⟩ = some (.int .i64 a.which))
                      (first | (with_reducible exact d5) | (with_reducible exact e5) | (with_reducible exact f5) | (with_reducible exact g5) | (with_reducible exact m5) | (with_reducible exact n5) | (with_reducible exact x5))
                      (first
                        | (go_at_call 69; have _q := H5; refine (batch15_any (IntKind.i64.wrap (a.which + (k : Int))) _).mono ?_; rintro e w5 ⟨v5, rfl, hu5, ho5⟩; have h6 := ab_perm (ab_bat H5.out hu5 ho5) (List.perm_middle (l₁ := [_, _, _, _])); obtain ⟨a5, c5, rfl⟩ := bat_form (own_reads ho5); have H6 := Lib.hid (h6.alloc (.cells #[.slice a5 (bt (IntKind.i64.wrap (a.which + (k : Int)))).length c5] 33)); have hxb := (blk_out (h6.ss_own.all (blk bx (a7O a)) (by simp)).1); obtain ⟨-, -, -, -, -, m5, -⟩ := a7_box hxb; clear hxb; have hxb := (blk_out (H6.out.ss_own.all (blk bx (a7O a)) (by simp)).1); obtain ⟨-, -, -, -, -, n5, -⟩ := a7_box hxb; clear hxb h6 hu5 ho5; have HO6 := Lib.hid (ownR_owns H6.out.ss_own.head))
                        | (go_at_call 69; refine (batch15_any (IntKind.i64.wrap (a.which + (k : Int))) _).mono ?_; rintro e w3 ⟨v3, rfl, hu3, ho3⟩; have h4 := ab_perm (ab_cp H3.out.drew hu3 ho3) (List.Perm.swap _ _ _); obtain ⟨a3, c3, rfl⟩ := bat_form (own_reads ho3); have H4 := Lib.hid (h4.alloc (.cells #[.slice a3 (bt (IntKind.i64.wrap (a.which + (k : Int)))).length c3] 33)); have hxb := (blk_out (h4.ss_own.all (blk bx (a7O a)) (by simp)).1); obtain ⟨-, -, -, -, -, e5, -⟩ := a7_box hxb; clear hxb; have hxb := (blk_out (H4.out.ss_own.all (blk bx (a7O a)) (by simp)).1); obtain ⟨-, -, -, -, -, f5, -⟩ := a7_box hxb; clear hxb h4 hu3 ho3; have HO4 := Lib.hid (ownR_owns H4.out.ss_own.head))
                        | (refine step_append_lies _ rfl (.tmp 49) (.tmp 55) 97 rfl 0 33 i0 (.slice none 0 0) 1 24 Try.underlying97 hi hz0 hz1 hz2 rfl (by decide) (.slice a2 k c2) k _ rfl HO6.out ⟨w5.heap.size, 0, none⟩ 1 1 [.slice a5 (bt (IntKind.i64.wrap (a.which + (k : Int)))).length c5] rfl rfl (World.news_of_block (heap_alloc_new w5 _)) one_slice (by decide) (by unfold maxLen; omega) (by omega) (Nat.zero_le _) _ rfl ?_; intro g6 cap6 w6 hown hgrow hat hlt6; have H7 := Lib.hid (ab_turn H6.out fun rs q => q.grow hgrow (by first | exact hat | (rw [hs_alloc]; exact hat)) hown); have hxb := (blk_out (H7.out.ss_own.all (blk bx (a7O a)) (by simp)).1); obtain ⟨-, -, -, -, -, x5, -⟩ := a7_box hxb; clear hxb hown hgrow hat hlt6)
                        | (refine step_append_lies _ rfl (.tmp 41) (.tmp 47) 97 rfl 0 33 i0 (.slice none 0 0) 1 24 Try.underlying97 hi hz0 hz1 hz2 rfl (by decide) (.slice a1 k c1) k _ rfl HO4.out ⟨w3.heap.size, 0, none⟩ 1 1 [.slice a3 (bt (IntKind.i64.wrap (a.which + (k : Int)))).length c3] rfl rfl (World.news_of_block (heap_alloc_new w3 _)) one_slice (by decide) (by unfold maxLen; omega) (by omega) (Nat.zero_le _) _ rfl ?_; intro g4 cap4 w4 hown hgrow hat hlt4; have H5 := Lib.hid (ab_turn H4.out fun rs q => q.grow hgrow (by first | exact hat | (rw [hs_alloc]; exact hat)) hown); have hxb := (blk_out (H5.out.ss_own.all (blk bx (a7O a)) (by simp)).1); obtain ⟨-, -, -, -, -, g5, -⟩ := a7_box hxb; clear hxb hown hgrow hat hlt4))
                    all_goals
                      have h8 := ab_two (ab_perm (ab_perm H7.out (List.perm_middle (l₁ := [_, _, _]))) (List.perm_middle (l₁ := [_, _, _, _]))) (fun _ h => own_usadd h)
                      have h9 := ab_two (ab_perm (ab_perm h8 (List.perm_middle (l₁ := [_, _]))) (List.perm_middle (l₁ := [_, _, _, _]))) (fun _ h => own_bRadd h)
                      have h10 := ab_perm (ab_perm (ab_perm h9 (List.perm_middle (l₁ := [_, _]))) (List.perm_middle (l₁ := [_, _]))) (List.perm_middle (l₁ := [_, _, _]))
                      have H10 := Lib.hid h10
                      clear h8 h9 h10 H7
                      go_wp2_with fail
                      go_roundw
                      case rel =>
                        refine ⟨k + 1, _, _, _, _, us ++ [(.slice a3 (bt (IntKind.i64.wrap (a.which + (k : Int)))).length c3, bt (IntKind.i64.wrap (a.which + (k : Int))))], vals ++ [.slice a5 (bt (IntKind.i64.wrap (a.which + (k : Int)))).length c5], by omega, by go_num, rfl, rfl, Lib.hid ⟨by simp [HU.out.1], by rw [List.map_append, HU.out.2, bts_succ]; rfl⟩, Lib.hid ?_⟩
                        have h := H10.out
                        rw [List.map_append, bts_succ]
                        exact h
                      case measure => simp [intOf]; omega
                  · have hkn : k = n := by omega
                    subst hkn
                    have hkI : decide ((k : Int) < (k : Int)) = false := by simp
                    obtain ⟨hul, hub⟩ := HU.out
                    have HUB := Lib.hid hub
                    have h4 : AtB B w0 wr i st p sd (lsR (.slice a1 k c1) us.length (us.map (·.1)) :: usR us :: lsR (.slice a2 k c2) k vals :: bR vals (btsOf a k) :: cpR (.slice ao (bt a.which).length cap) (bt a.which) :: blk bx (a7O a) :: ss) := by rw [hul]; exact H3.out
                    have HI := Lib.hid (ab_install h4 (fun u hu => by
                      have : u.2 ∈ us.map (·.2) := List.mem_map.2 ⟨u, hu, rfl⟩
                      rw [hub] at this
                      obtain ⟨j, -, e⟩ := List.mem_map.1 this
                      have := bt_len (IntKind.i64.wrap (a.which + (j : Int)))
                      rw [← e]; omega) (by omega))
                    have hbl2 : (btsOf a k).length = k := by simp [btsOf]
                    have HBL := Lib.hid hbl2
                    clear h4 hub hbl2 H3
                    go_wp2_with fail
                    refine HI.out.mono ?_
                    rintro e w4 ⟨rfl, h5⟩
                    rw [hul, HUB.out] at h5
                    rw [hul]
                    have h6 : AtB B w0 w4 i (installI st (btsOf a k)) p sd (lsR (.slice a2 k c2) (btsOf a k).length vals :: bR vals (btsOf a k) :: lsR (.slice a1 k c1) k (us.map (·.1)) :: usR us :: cpR (.slice ao (bt a.which).length cap) (bt a.which) :: blk bx (a7O a) :: ss) := by
                      rw [HBL.out]
                      exact ab_perm (ab_perm h5 (List.perm_middle (l₁ := [_, _, _]))) (List.perm_middle (l₁ := [_, _, _]))
                    have HD := Lib.hid (ab_dinstall (ab_two h6 (fun _ h => own_bsR h)) (fun b hb => by
                      obtain ⟨j, -, e⟩ := List.mem_map.1 hb
                      have := bt_len (IntKind.i64.wrap (a.which + (j : Int)))
                      rw [← e]; omega))
                    clear h5 h6 HI
                    go_wp2_with fail
                    refine HD.out.mono ?_
                    rintro e w5 ⟨rfl, h7⟩
                    rw [HBL.out]
                    have H7 : Hid (AtB B w0 w5 i (installI st (btsOf a k)) p (installI sd (btsOf a k)) (lsR (.slice a1 k c1) k (us.map (·.1)) :: rwR us :: cpR (.slice ao (bt a.which).length cap) (bt a.which) :: blk bx (a7O a) :: ss)) :=
                      Lib.hid (ab_perm (ab_turn (ab_perm h7 (List.Perm.swap _ _ _)) (fun _ h => own_rows h)) (List.Perm.swap _ _ _))
                    have HUL := Lib.hid hul
                    clear h7 HD hul HU
                    go_wp2_with fail
                    go_loopw [66] (fun i' wx => ∃ r : Nat, r ≤ k ∧ i' = .int .i64 r ∧ Hid (AtB B w0 wx i (installI st (btsOf a k)) p (installI sd (btsOf a k)) (lsR (.slice a1 k c1) k (us.map (·.1)) :: rwR us :: cpR (.slice ao (bt a.which).length cap) (bt a.which) :: blk bx (a7O a) :: ss))) (fun i' _ => k - (intOf i').toNat)
                    case atStart => exact ⟨0, by omega, rfl, H7⟩
                    case round =>
                      clear H7
                      obtain ⟨r, hr, rfl, H7⟩ := hrel
                      by_cases hltr : r < k
                      · have hrI : (r : Int) < (k : Int) := by omega
                        have hru : r < us.length := by rw [HUL.out]; exact hltr
                        obtain ⟨b, o, rfl, hb, cu⟩ := ls_cell H7.out hltr hru
                        obtain ⟨ao6, cap6, hur⟩ := row_form (rw_row (ab_drop H7.out).ss_own r hru)
                        rw [hur] at cu
                        have HUR := Lib.hid hur
                        clear hur
                        have hlen2 : us[r].2.length ≤ 2 := by
                          have : us[r].2 ∈ us.map (·.2) := List.mem_map.2 ⟨us[r], by simp, rfl⟩
                          rw [HUB.out] at this
                          obtain ⟨j, -, e⟩ := List.mem_map.1 this
                          rw [← e]; exact bt_len _
                        go_wp2_with fail
                        go_loopw [74] (fun i' wx => ∃ s : Nat, s ≤ us[r].2.length ∧ i' = .int .i64 s ∧ Hid (AtB B w0 wx i (installI st (btsOf a k)) p (installI sd (btsOf a k)) (lsR (.slice (some ⟨b, o, none⟩) k c1) k (us.map (·.1)) :: rwR us :: cpR (.slice ao (bt a.which).length cap) (bt a.which) :: blk bx (a7O a) :: ss))) (fun i' _ => us[r].2.length - (intOf i').toNat)
                        case atStart => exact ⟨0, by omega, rfl, H7⟩
                        case round =>
                          clear H7 cu hb
                          obtain ⟨s, hs, rfl, H7⟩ := hrel
                          by_cases hlts : s < us[r].2.length
                          · have hsI : (s : Int) < (us[r].2.length : Int) := by omega
                            obtain ⟨b', o', e, hb, cu⟩ := ls_cell H7.out hltr hru
                            cases e
                            rw [HUR.out] at cu
                            have hrow := rw_row (ab_drop H7.out).ss_own r hru
                            rw [HUR.out] at hrow
                            obtain ⟨g, cur, rfl, hg, hsz, hcap⟩ := row_at hrow hlts
                            have fz := fun o => block_frozen hg o
                            have hc := row_cells hg hsz
                            obtain ⟨x0, c0⟩ := hc (s * 6) (by omega)
                            obtain ⟨x1, c1'⟩ := hc (s * 6 + 1) (by omega)
                            obtain ⟨x2, c2'⟩ := hc (s * 6 + 2) (by omega)
                            obtain ⟨x3, c3⟩ := hc (s * 6 + 3) (by omega)
                            obtain ⟨x4, c4⟩ := hc (s * 6 + 4) (by omega)
                            obtain ⟨x5, c5⟩ := hc (s * 6 + 5) (by omega)
                            clear hc hg hrow
                            go_wp2_with fail
                            go_roundw
                            case rel =>
                              refine ⟨s + 1, by omega, by go_num, Lib.hid (ab_perm (ab_turn (ab_perm H7.out (List.Perm.swap _ _ _)) (fun rs q => rw_put6 q r hru HUR.out _ _ _ _ _ _ _ _ _ _ _ _)) (List.Perm.swap _ _ _))⟩
                            case measure => simp [intOf]; omega
                          · have hsI : decide ((s : Int) < (us[r].2.length : Int)) = false := by simp; omega
                            go_wp2_with fail
                            go_roundw
                            case rel => exact ⟨r + 1, by omega, by go_num, H7⟩
                            case measure => simp [intOf]; omega
                      · have hrI : decide ((r : Int) < (k : Int)) = false := by simp; omega
                        go_wp2_with fail
                        go_meet
                        exact Lib.hid (doP_of (S1.out st) (S1.out sd) (fun e => by rw [e]; simp) (ab_drop (ab_drop H7.out)))

  case rest =>
    clear H2 b0 b1 b2 b3 b4 b5 b6 SP SV SR SC SA SL SI k1 k2
    obtain ⟨t, rfl, ht, H3⟩ := hcut.out
    have HT := Lib.hid ht
    have HS := Lib.hid H3
    clear ht H3 hcut
    generalize (bt a.which).length = nb at *
    go_wp2_with fail
    go_loopw [229] (fun i' wr => ∃ k : Nat, k ≤ nb ∧ i' = .int .i64 k ∧ Hid (AtB B w0 wr i (stepI st a) p (stepI sd a) (rowR 32 6 (.slice ao nb cap) nb :: ss))) (fun i' _ => nb - (intOf i').toNat)
    case atStart => exact ⟨0, by omega, rfl, HS⟩
    case round =>
      clear HS
      obtain ⟨k, hk, rfl, H2⟩ := hrel
      by_cases hlt : k < nb
      · have hkI : (k : Int) < (nb : Int) := by omega
        obtain ⟨g, cur, rfl, hg, hsz, hcap⟩ := row_at H2.out.ss_own.head hlt
        have fz := fun o => block_frozen hg o
        have hc := row_cells hg hsz
        obtain ⟨x0, c0⟩ := hc (k * 6) (by omega)
        obtain ⟨x1, c1⟩ := hc (k * 6 + 1) (by omega)
        obtain ⟨x2, c2⟩ := hc (k * 6 + 2) (by omega)
        obtain ⟨x3, c3⟩ := hc (k * 6 + 3) (by omega)
        obtain ⟨x4, c4⟩ := hc (k * 6 + 4) (by omega)
        obtain ⟨x5, c5⟩ := hc (k * 6 + 5) (by omega)
        clear hc hg
        go_wp2_with fail
        go_roundw
        case rel =>
          refine ⟨k + 1, by omega, by go_num, Lib.hid (ab_turn H2.out fun rs q => row_put6 q _ _ _ _ _ _ _ _ _ _ _ _)⟩
        case measure => simp [intOf]; omega
      · have hkI : ¬ (k : Int) < (nb : Int) := by omega
        have hkJ : decide ((k : Int) < (nb : Int)) = false := by simp; omega
        go_wp2_with fail
        go_ret
        exact ⟨t, rfl, HT.out, ab_drop H2.out⟩

end
end Go.Proofs.Ytdeadekeffficaa

/- Acts that came in: psephoslaw15.Act. -/
namespace Go.Proofs.Ytdeadekeffficaa
open Go.ChangeShapes Go.WideShapes Go.ChangeAt Go.RowKit Go.Deep Go.Heap

def a7Cells (a : A7) : List Value := [.int .i64 a.act, .int .i64 a.seq, .int .i64 a.kind, .int .i64 a.node, .int .i64 a.sl, .int .i64 a.which, .int .i64 a.view]

/-- v is a slice of the acts xs. -/
def Acts7 (w : World) (v : Value) (xs : List A7) : Prop := Reads w v 7 xs.length (xs.flatMap a7Cells)

theorem Acts7.below {w w' : World} {v : Value} {xs : List A7} (h : Acts7 w v xs) (hu : Upd [] w w') : Acts7 w' v xs := Reads.upd h hu (by simp)

theorem Acts7.at {w : World} {ao : Option Addr} {n cap : Nat} {xs : List A7} (h : Acts7 w (.slice ao n cap) xs) (k : Nat) (hk : k < xs.length) :
    n = xs.length ∧ ∃ b o, ao = some ⟨b, o, none⟩ ∧ b < w.heap.size ∧ w.cell? ⟨b, o + k * 7, none⟩ = some (.int .i64 xs[k].act) ∧ w.cell? ⟨b, o + k * 7 + 1, none⟩ = some (.int .i64 xs[k].seq) ∧ w.cell? ⟨b, o + k * 7 + 2, none⟩ = some (.int .i64 xs[k].kind) ∧
      w.cell? ⟨b, o + k * 7 + 3, none⟩ = some (.int .i64 xs[k].node) ∧ w.cell? ⟨b, o + k * 7 + 4, none⟩ = some (.int .i64 xs[k].sl) ∧ w.cell? ⟨b, o + k * 7 + 5, none⟩ = some (.int .i64 xs[k].which) ∧ w.cell? ⟨b, o + k * 7 + 6, none⟩ = some (.int .i64 xs[k].view) := by
  obtain ⟨ao', cap', hv, h1, h2, h3, h4, h5⟩ := h
  simp only [Value.slice.injEq] at hv
  obtain ⟨rfl, rfl, rfl⟩ := hv
  obtain ⟨b, o, rfl, hbs, hc⟩ := h5 (by omega)
  have hg : ∀ r, r < 7 → w.cell? ⟨b, o + k * 7 + r, none⟩ = (a7Cells xs[k])[r]? := by
    intro r hr
    have := hc (k * 7 + r) (by omega)
    rw [flat_get (cells := a7Cells) (sz := 7) (fun _ => rfl) xs k r xs[k] (by simp) hr] at this
    rw [← this]
    congr 2
    omega
  exact ⟨rfl, b, o, rfl, hbs, hg 0 (by omega), hg 1 (by omega), hg 2 (by omega), hg 3 (by omega), hg 4 (by omega), hg 5 (by omega), hg 6 (by omega)⟩

section
variable {H : Type} {enc : TypeId × Value → H} {W : World} {base : Nat} {spare : Nat → Bool} {held : Bool}

theorem seven {cs : List Value} (h : cs.length = 7) : ∃ a b c d e f g, cs = [a, b, c, d, e, f, g] := by
  match cs, h with
  | [a, b, c, d, e, f, g], _ => exact ⟨a, b, c, d, e, f, g, rfl⟩

theorem a7_cells {n : Nat} {cs : List Value} {y : DataW H × List MemPlace} (hl : cs.length = 7) (h : DataW.trod enc Try.prog W base spare held n 89 cs = some y) : ∃ a : A7, cs = a7Cells a ∧ True := by
  obtain ⟨c0, c1, c2, c3, c4, c5, c6, rfl⟩ := seven hl
  obtain ⟨ys, n', _, _, _, hyl, hf⟩ := DataW.trod_struct Try.underlying89 h
  obtain ⟨a0, e0⟩ := int_cell Try.underlying3 (get_some hyl (by decide)) (hf 0 _ rfl)
  obtain ⟨a1, e1⟩ := int_cell Try.underlying3 (get_some hyl (by decide)) (hf 1 _ rfl)
  obtain ⟨a2, e2⟩ := int_cell Try.underlying3 (get_some hyl (by decide)) (hf 2 _ rfl)
  obtain ⟨a3, e3⟩ := int_cell Try.underlying3 (get_some hyl (by decide)) (hf 3 _ rfl)
  obtain ⟨a4, e4⟩ := int_cell Try.underlying3 (get_some hyl (by decide)) (hf 4 _ rfl)
  obtain ⟨a5, e5⟩ := int_cell Try.underlying3 (get_some hyl (by decide)) (hf 5 _ rfl)
  obtain ⟨a6, e6⟩ := int_cell Try.underlying3 (get_some hyl (by decide)) (hf 6 _ rfl)
  simp [Try.cellsInt] at e0 e1 e2 e3 e4 e5 e6
  subst e0 e1 e2 e3 e4 e5 e6
  exact ⟨⟨a0, a1, a2, a3, a4, a5, a6⟩, rfl, trivial⟩

set_option maxRecDepth 100000 in
theorem acts7_of {base' : Nat} {v : Value} {d : DataW H} {p : List MemPlace} {r : Reach} (hv : Value.okWide Try.prog W r base' 85 v) (h : DataW.Trod enc Try.prog W base spare held 85 v d p) : ∃ xs : List A7, Acts7 W v xs := by
  obtain ⟨ao, len, cap, rfl⟩ := okWide_slice Try.underlying85 hv
  obtain ⟨fuel, hf⟩ := h
  obtain ⟨xs, h1, -⟩ := slice_reads (sz := 7) (cells := a7Cells) (Q := fun _ => True) Try.underlying85 (by kernel_rfl) (by omega) (fun _ => rfl) (fun n cs' y hl hy => a7_cells hl hy) hf
  exact ⟨xs, h1⟩

end
end Go.Proofs.Ytdeadekeffficaa
