/- Parts of the proof, one behind the other. -/
import Derived.Test.YtannckelmojkoaaGreatAdoB27
set_option maxHeartbeats 32000000
set_option maxRecDepth 100000
namespace Go.Proofs.YtannckelmojkoaaGreat
open Go.RowKit Go.Heap
theorem zgl {α : Type} {P : List α → Prop} (h0 : P []) (h1 : ∀ l a, P l → P (l ++ [a])) (l : List α) : P l := by
 rw [← List.reverse_reverse l]
 induction l.reverse with
 | nil => exact h0
 | cons a t ih => rw [List.reverse_cons]; exact h1 _ _ ih
def vtsGo (mk : Int → Ms) (l : Nt) (ks : List Int) : Vs × Nt := ks.foldl (fun q k => (q.1 ++ [(k, msS q.2 (mk k))], msSL q.2 (mk k))) ([], l)
theorem zde (mk : Int → Ms) (l : Nt) (ks : List Int) (k : Int) : vtsGo mk l (ks ++ [k]) = ((vtsGo mk l ks).1 ++ [(k, msS (vtsGo mk l ks).2 (mk k))], msSL (vtsGo mk l ks).2 (mk k)) := by
 unfold vtsGo
 rw [List.foldl_append]; rfl
theorem zhq (mk : Int → Ms) (l : Nt) (ks : List Int) : (vtsGo mk l ks).1.length = ks.length := by
 refine zgl (P := fun ks => (vtsGo mk l ks).1.length = ks.length) rfl (fun ks k ih => ?_) ks
 rw [zde]; simp [ih]
def quoK (f : Nat) (s : Int) (i : Nat) : Int := if (i : Int) < s then i else i + f
def quoKs (f : Nat) (s : Int) (n : Nat) : List Int := (List.range n).map (quoK f s)
theorem zny (f : Nat) (s : Int) (n : Nat) : quoKs f s (n + 1) = quoKs f s n ++ [quoK f s n] := by unfold quoKs; rw [List.range_succ, List.map_append]; rfl
theorem zdf (f : Nat) (s : Int) (n : Nat) : (quoKs f s n).length = n := by unfold quoKs; simp
theorem zn8 (l : Nt) (m : Ms) : (msSL l m).length ≤ l.length + 1 := by
 unfold msSL
 split
 ·omega
 ·exact (zdh _ _ _).2
theorem msSL_ok {l : Nt} {m : Ms} (h : NtOk l) (h1 : -9223372036854775808 ≤ m.fm) (h2 : m.fm ≤ 9223372036854775807) : NtOk (msSL l m) := by
 unfold msSL
 split
 ·exact h
 ·rename_i b hb
  exact zfc h (zek hb h1 h2)
theorem zo2 (mk : Int → Ms) (l : Nt) (ks : List Int) : (vtsGo mk l ks).2.length ≤ l.length + ks.length := by
 refine zgl (P := fun ks => (vtsGo mk l ks).2.length ≤ l.length + ks.length) (by simp [vtsGo]) (fun ks k ih => ?_) ks
 rw [zde]
 have := zn8 (vtsGo mk l ks).2 (mk k)
 simp
 omega
theorem zoo {mk : Int → Ms} {l : Nt} (h : NtOk l) {ks : List Int} : (∀ k ∈ ks, -9223372036854775808 ≤ (mk k).fm ∧ (mk k).fm ≤ 9223372036854775807) → NtOk (vtsGo mk l ks).2 := by
 refine zgl (P := fun ks => (∀ k ∈ ks, -9223372036854775808 ≤ (mk k).fm ∧ (mk k).fm ≤ 9223372036854775807) → NtOk (vtsGo mk l ks).2) (fun _ => h) (fun ks k ih hk => ?_) ks
 rw [zde]
 have := hk k (by simp)
 exact msSL_ok (ih (fun q hq => hk q (by simp [hq]))) this.1 this.2
theorem Tryz.infoVt2 : (Tryz.prog.info? 177).map (fun i => (i.zero, i.size, i.bytes)) = some (some (.agg #[.int .i64 0, .int .i64 0]), 2, 16) := by kernel_rfl
section
variable {B : Nat} {w0 w W W' : World} {ss rs : List Res} {nt nm rn : Nat} {vp : Value} {vt : Rn} {l : Nt}
def MkC (B : Nat) (w0 : World) (ss : List Res) (fn : FuncId) (cap : Array Value) (mk : Int → Mm) : Prop :=
 ∀ W rs (k : Int), 0 ≤ k → k ≤ 100 → Own B w0 W rs → (∀ r ∈ ss, r ∈ rs) → Calls Tryz.prog fn (#[.int .i64 k] ++ cap) W fun e w' => e = .returned (.agg (mmA (mk k))) ∧ Own B w0 w' (mmR (mk k) rs)
theorem zkz {f : Nat} {skip : Int} {p1 p2 : Nat} {mk : Int → Mm} (h : Own B w0 W (twR nt nm rn vp vt l ss)) (hm : ∀ k, MmOk (mk k)) (hfm : ∀ k, (mk k).fm = k) (hl : NtOk l) (hn : l.length ≤ 900000000) (hf1 : 1 ≤ f) (hf2 : f ≤ 4) (HM : MkC B w0 ss 66 #[ptrV p1, ptrV p2] mk) :
  Calls Tryz.prog 65 #[.agg (twA nt rn), .int .i64 f, .int .i64 skip, .func (.func 66) #[] #[ptrV p1, ptrV p2]] W fun e w' => ∃ v' vp' vt', e = .returned v' ∧ Own B w0 w' (redR v' 2 (2 * f + 1) (zan (vtsGo (fun k => (mk k).ms) l (quoKs f (skip % (f + 1)) (2 * f + 1))).1) :: twR nt nm rn vp' vt' (vtsGo (fun k => (mk k).ms) l (quoKs f (skip % (f + 1)) (2 * f + 1))).2 ss) := by
 obtain ⟨i0, hi, hz0, hz1, hz2⟩ := info_parts Tryz.infoVt2
 have hs0 : 0 ≤ skip % ((f : Int) + 1) := Int.emod_nonneg _ (by omega)
 have hs1 : skip % ((f : Int) + 1) < (f : Int) + 1 := Int.emod_lt_of_pos _ (by omega)
 have HW := Lib.hid (fun w => zdn skip ((f : Int) + 1) w (by omega) (by omega))
 generalize skip % ((f : Int) + 1) = sk at *
 have HN := Lib.hid (fun w => zf8 (f : Int) w (by omega) (by omega))
 have HQ := Lib.hid (fun w => zmw (f : Int) w (by omega) (by omega))
 have H1 := Lib.hid ((h.box (twO nt rn)).row0 (E := 177) (sz := 2))
 have HFM := Lib.hid hfm
 have HOK := Lib.hid hm
 have HMK := Lib.hid HM
 have HL := Lib.hid hl
 clear h hfm hm HM hl
 go_enter Tryz.func65, Tryz.ntmps65
 go_wp2_with fail
 refine (HN.out _).mono ?_
 rintro e w' ⟨rfl, rfl⟩
 go_wp2_with fail
 go_loopw [9, 11] (fun o i wr => ∃ (n : Nat) (ao : Option Addr) (cp : Nat) (vp' : Value) (vt' : Rn), n ≤ 2 * f + 1 ∧ i = .int .i64 n ∧ o = .slice ao n cp ∧ Hid (Own B w0 wr (ownR 177 2 (.slice ao n cp) n (zan (vtsGo (fun k => (mk k).ms) l (quoKs f sk n)).1) :: blk W.heap.size (twO nt rn) :: twR nt nm rn vp' vt' (vtsGo (fun k => (mk k).ms) l (quoKs f sk n)).2 ss))) (fun _ i _ => 2 * f + 1 - (intOf i).toNat)
 case atStart => exact ⟨0, none, 0, vp, vt, by omega, rfl, rfl, H1⟩
 case round =>
  clear H1
  obtain ⟨n, ao, cp, vp', vt', hn2, rfl, rfl, H2⟩ := hrel
  by_cases hlt : n < 2 * f + 1
  ·have hnI : (n : Int) < 2 * (f : Int) + 1 := by omega
   go_wp2_with fail
   refine (HQ.out _).mono ?_
   rintro e w' ⟨rfl, rfl⟩
   go_upto_if 28 with fail
   refine (HW.out _).mono ?_
   rintro e w' ⟨rfl, rfl⟩
   go_upto_if 28 with fail
   generalize hbd : decide (sk ≤ (n : Int)) = bd
   have HBD := Lib.hid hbd
   clear hbd
   go_cut [12] (fun t wx => t = .int .i64 (quoK f sk n) ∧ Hid (Own B w0 wx (ownR 177 2 (.slice ao n cp) n (zan (vtsGo (fun k => (mk k).ms) l (quoKs f sk n)).1) :: blk W.heap.size (twO nt rn) :: twR nt nm rn vp' vt' (vtsGo (fun k => (mk k).ms) l (quoKs f sk n)).2 ss)))
   case first =>
    cases bd with
    | false =>
     have HQK : Hid (quoK f sk n = n) := Lib.hid (by have := HBD.out; simp only [decide_eq_false_iff_not] at this; unfold quoK; rw [if_pos (by omega)])
     go_wp2_with fail
     go_meet
     exact ⟨by rw [HQK.out], H2⟩
    | true =>
     have HQK : Hid (quoK f sk n = n + f) := Lib.hid (by have := HBD.out; simp only [decide_eq_true_eq] at this; unfold quoK; rw [if_neg (by omega)])
     go_wp2_with fail
     refine (HQ.out _).mono ?_
     rintro e w' ⟨rfl, rfl⟩
     have e9 : (n : Int) + (3 * (f : Int) + 1) - (2 * (f : Int) + 1) = n + f := by omega
     go_wp2_with fail
     go_meet
     exact ⟨by rw [HQK.out], H2⟩
   case rest =>
    obtain ⟨rfl, H3⟩ := hcut
    clear H2
    go_upto_region 9 with fail
    have hq0 : 0 ≤ quoK f sk n ∧ quoK f sk n ≤ 100 := by unfold quoK; split <;> omega
    have HST : Hid (quoKs f sk (n + 1) = quoKs f sk n ++ [quoK f sk n]) := Lib.hid (zny f sk n)
    generalize quoK f sk n = q at *
    have h4 : Own B w0 wc.drew (twR nt nm rn vp' vt' (vtsGo (fun k => (mk k).ms) l (quoKs f sk n)).2 (ownR 177 2 (.slice ao n cp) n (zan (vtsGo (fun k => (mk k).ms) l (quoKs f sk n)).1) :: blk W.heap.size (twO nt rn) :: ss)) := H3.out.drew.perm ((List.perm_append_comm (l₁ := [_, _]) (l₂ := [_, _, _, _, _])).append_right ss)
    have t0 := zaa (h4.blkAt 6 rfl) 0 rfl
    have t1 := zaa (h4.blkAt 6 rfl) 1 rfl
    have HC := Lib.hid (HMK.out _ _ q hq0.1 hq0.2 h4 (by simp +contextual))
    have HPX : Hid ((vtsGo (fun k => (mk k).ms) l (quoKs f sk n)).2.length ≤ 900000100) := Lib.hid (by
     have h1 := zo2 (fun k => (mk k).ms) l (quoKs f sk n)
     rw [zdf] at h1
     omega)
    have HNK : Hid (NtOk (vtsGo (fun k => (mk k).ms) l (quoKs f sk n)).2) := Lib.hid (zoo HL.out (fun k hk => by
     have h1 : (mk k).ms.fm = k := HFM.out k
     have h2 : 0 ≤ k ∧ k ≤ 100 := by
      unfold quoKs at hk
      simp only [List.mem_map, List.mem_range] at hk
      obtain ⟨i, hi, rfl⟩ := hk
      unfold quoK
      split <;> omega
     rw [h1]
     omega))
    have HSN : Hid (vtsGo (fun k => (mk k).ms) l (quoKs f sk (n + 1)) = ((vtsGo (fun k => (mk k).ms) l (quoKs f sk n)).1 ++ [(q, msS (vtsGo (fun k => (mk k).ms) l (quoKs f sk n)).2 (mk q).ms)], msSL (vtsGo (fun k => (mk k).ms) l (quoKs f sk n)).2 (mk q).ms)) := Lib.hid (by rw [HST.out, zde])
    have HVL : Hid ((vtsGo (fun k => (mk k).ms) l (quoKs f sk n)).1.length = n) := Lib.hid (by rw [zhq, zdf])
    generalize vtsGo (fun k => (mk k).ms) l (quoKs f sk n) = vg at *
    obtain ⟨A, l3⟩ := vg
    simp only at HPX HNK HSN HVL h4 HC
    clear h4 H3
    refine Held.wp_held [(W.heap.size, 0, [.pointer (some ⟨nt, 0, none⟩), .pointer (some ⟨rn, 0, none⟩)])] [(2, 0)] [9] [(6, true), (1, true), (3, false)] (by kernel_rfl) (by kernel_rfl) ⟨⟨t0, t1, trivial⟩, trivial⟩ ?_
    simp only [Held.cutAt, Held.walk, List.take_succ_cons, List.take_zero, List.drop_succ_cons, List.drop_zero]
    go_wp2_with fail
    refine HC.out.mono ?_
    rintro e w3 ⟨rfl, h5⟩
    have HMS := Lib.hid (zsd h5 (HOK.out q) HNK.out (by have := HPX.out; omega) (by rw [HFM.out]; omega) (by rw [HFM.out]; omega))
    have s0 := zaa (h5.blkAt 12 rfl) 0 rfl
    have s1 := zaa (h5.blkAt 12 rfl) 1 rfl
    clear h5 HC t0 t1
    go_wp2_with fail
    refine ⟨⟨⟨s0, s1, trivial⟩, trivial⟩, ?_⟩
    go_wp2_with fail
    refine HMS.out.mono ?_
    rintro e w4 ⟨rfl, vp5, vt5, h6⟩
    have u0 := zaa (h6.blkAt 12 rfl) 0 rfl
    have u1 := zaa (h6.blkAt 12 rfl) 1 rfl
    generalize msS l3 (mk q).ms = sq at *
    generalize msSL l3 (mk q).ms = l4 at *
    have h7 : Own B w0 w4 (ownR 177 2 (.slice ao n cp) n (zan A) :: blk W.heap.size (twO nt rn) :: twR nt nm rn vp5 vt5 l4 ss) := (zw8 (m := mk q) h6).perm ((List.perm_append_comm (l₁ := [_, _, _, _, _]) (l₂ := [_, _])).append_right ss)
    have HX := Lib.hid (h7.box (.cells #[.int .i64 q, .int .i64 sq] 177 (0, 0)))
    have HN5 := Lib.hid (heap_alloc_new w4 (.cells #[.int .i64 q, .int .i64 sq] 177 (0, 0)))
    clear h6 h7 HMS s0 s1
    go_wp2_with fail
    refine ⟨⟨⟨u0, u1, trivial⟩, trivial⟩, ?_⟩
    clear u0 u1
    go_wp2_with (at_builtin; refine zba rfl (.tmp 35) (.tmp 43) 40 rfl 177 i0 (.agg #[.int .i64 0, .int .i64 0]) 2 16 Tryz.underlying40 hi hz0 hz1 hz2 rfl (by decide) HX.out 1 (.slice ao n cp) n (zan A) rfl rfl w4.heap.size #[.int .i64 q, .int .i64 sq] 177 (0, 0) rfl HN5.out rfl (by simp [Value.oneCell']) (by unfold maxLen; omega) (by omega) ?_)
    intro g6 cap6 w6 h8
    have h9 : Own B w0 w6 (ownR 177 2 (.slice (some ⟨g6, 0, none⟩) (n + 1) cap6) (n + 1) (zan (A ++ [(q, sq)])) :: blk W.heap.size (twO nt rn) :: twR nt nm rn vp5 vt5 l4 ss) := by
     have := h8.drop
     simpa [zan] using this
    have HF := Lib.hid h9
    clear h8 h9 HX HN5
    go_wp2_with fail
    refine ⟨trivial, ?_⟩
    go_wp2_with fail
    refine ⟨trivial, by rfl, ⟨⟨rfl, .inr ⟨by kernel_rfl, by kernel_rfl⟩⟩, trivial⟩, ?_⟩
    go_wp2_with fail
    go_roundw
    case rel => exact ⟨n + 1, some ⟨g6, 0, none⟩, cap6, vp5, vt5, by omega, by go_num, by go_num, Lib.hid (by rw [HSN.out]; exact HF.out)⟩
    case measure => simp [intOf]; omega
  ·have hnI : decide ((n : Int) < 2 * (f : Int) + 1) = false := by simp; omega
   have hne : n = 2 * f + 1 := by omega
   subst hne
   have HF := Lib.hid (H2.out.swap.drop.toRed)
   go_wp2_with fail
   refine (HQ.out _).mono ?_
   rintro e w' ⟨rfl, rfl⟩
   go_wp2_with fail
   go_ret
   exact ⟨_, vp', vt', rfl, HF.out⟩
end
def Px (l l' : Nt) : Prop := ∃ t, l' = l ++ t
theorem Px.refl (l : Nt) : Px l l := ⟨[], by simp⟩
theorem Px.trans {a b c : Nt} (h : Px a b) (g : Px b c) : Px a c := by
 obtain ⟨t, rfl⟩ := h
 obtain ⟨u, rfl⟩ := g
 exact ⟨t ++ u, by rw [List.append_assoc]⟩
theorem zjn (l : Nt) (p : Int) (b : Bys) : Px l (sealL l p b) := by
 unfold sealL
 split
 ·exact .refl l
 ·exact ⟨_, rfl⟩
theorem zs7 (l : Nt) (m : Ms) : Px l (msSL l m) := by
 unfold msSL
 split
 ·exact .refl l
 ·exact zjn _ _ _
theorem px_rqSL (l : Nt) (r : Rq) : Px l (rqSL l r) := by
 unfold rqSL
 split
 ·exact zjn _ _ _
 ·exact .refl l
theorem Px.mem {l l' : Nt} (h : Px l l') {x : Int × Bys} (hx : x ∈ l) : x ∈ l' := by
 obtain ⟨t, rfl⟩ := h
 exact List.mem_append_left _ hx
theorem Px.sealN {l l' : Nt} (h : Px l l') {p : Int} {b : Bys} (hx : (p, b) ∈ l) : sealN l' p b = sealN l p b := by
 obtain ⟨t, rfl⟩ := h
 unfold Go.Proofs.YtannckelmojkoaaGreat.sealN
 rw [List.idxOf_append, if_pos hx]
theorem Px.find {l l' : Nt} (h : Px l l') {p : Int} {b : Bys} (hx : (p, b) ∈ l) : findN l' p b = findN l p b := by
 unfold findN
 rw [if_pos hx, if_pos (h.mem hx), h.sealN hx]
theorem Px.len {l l' : Nt} (h : Px l l') : l.length ≤ l'.length := by
 obtain ⟨t, rfl⟩ := h
 simp
theorem Px.sealed {l l' : Nt} (h : Px l l') {m : Ms} {sl : Int} (hs : zcs l m sl = true) : zcs l' m sl = true := by
 unfold zcs at hs ⊢
 cases hb : bodyP m with
 | none => rw [hb] at hs; simp at hs
 | some b =>
  rw [hb] at hs
  simp only [Bool.and_eq_true, decide_eq_true_eq] at hs ⊢
  exact ⟨h.mem hs.1, by rw [h.find hs.1]; exact hs.2⟩
theorem Px.rqSealed {l l' : Nt} (h : Px l l') {cl : Int} {r : Rq} (hs : rqSealed l cl r = true) : rqSealed l' cl r = true := by
 unfold Go.Proofs.YtannckelmojkoaaGreat.rqSealed at hs ⊢
 simp only [Bool.and_eq_true, decide_eq_true_eq] at hs ⊢
 exact ⟨hs.1, h.mem hs.2.1, by rw [h.find hs.2.1]; exact hs.2.2⟩
theorem zl6 {n : Nat} {p q : Nat → Bool} (h : allR n p = true) (hq : ∀ k, k < n → p k = true → q k = true) : allR n q = true := zbe (fun k hk => hq k hk (zs8 h k hk))
theorem Px.batch {l l' : Nt} (h : Px l l') {most cl : Int} {rs : List Rq} (hs : zee l most cl rs = true) : zee l' most cl rs = true := by
 unfold zee at hs ⊢
 simp only [Bool.and_eq_true] at hs ⊢
 refine ⟨hs.1, zl6 hs.2 (fun k _ hk => ?_)⟩
 unfold zes at hk ⊢
 rw [Bool.and_eq_true] at hk ⊢
 exact ⟨h.rqSealed hk.1, hk.2⟩
theorem Px.voted {l l' : Nt} (h : Px l l') {kind : Int} {c : Cp} {f : Nat} (hs : zg6 l kind c f = true) : zg6 l' kind c f = true := by
 unfold zg6 at hs ⊢
 rw [Bool.and_eq_true] at hs ⊢
 exact ⟨hs.1, zl6 hs.2 (fun k _ hk => h.sealed hk)⟩
theorem Px.certified {l l' : Nt} (h : Px l l') {kind : Int} {c : Cp} {f : Nat} {cl : Int} (hs : za1 l kind c f cl = true) : za1 l' kind c f cl = true := by
 unfold za1 at hs ⊢
 simp only [Bool.and_eq_true] at hs ⊢
 exact ⟨hs.1, h.batch hs.2.1, h.voted hs.2.2⟩
theorem zmg {l : Nt} {m : Ms} (hb : (bodyP m).isSome = true) : zcs (msSL l m) m (msS l m) = true := by
 unfold zcs msSL msS
 cases h : bodyP m with
 | none => rw [h] at hb; simp at hb
 | some b =>
  simp only [Bool.and_eq_true, decide_eq_true_eq, beq_iff_eq]
  exact ⟨zep _ _ _, zen _ _ _⟩
theorem msS_in {l : Nt} {m : Ms} (hb : (bodyP m).isSome = true) : 1 ≤ msS l m ∧ msS l m ≤ (l.length : Int) + 1 := by
 unfold msS
 cases h : bodyP m with
 | none => rw [h] at hb; simp at hb
 | some b => exact zht _ _ _
theorem zj4 (mk : Int → Ms) (l : Nt) (ks : List Int) : Px l (vtsGo mk l ks).2 ∧ (vtsGo mk l ks).2.length ≤ l.length + ks.length := by
 refine zgl (P := fun ks => Px l (vtsGo mk l ks).2 ∧ (vtsGo mk l ks).2.length ≤ l.length + ks.length) ⟨.refl l, by simp [vtsGo]⟩ (fun ks k ih => ?_) ks
 rw [zde]
 have := zn8 (vtsGo mk l ks).2 (mk k)
 exact ⟨ih.1.trans (zs7 _ _), by simp; omega⟩
theorem zwj (mk : Int → Ms) (l : Nt) (ks : List Int) : (∀ k ∈ ks, (bodyP (mk k)).isSome = true) → ∀ (j : Nat) (hj : j < ks.length), ∃ sl, (vtsGo mk l ks).1[j]? = some (ks[j], sl) ∧ zcs (vtsGo mk l ks).2 (mk ks[j]) sl = true ∧ 1 ≤ sl ∧ sl ≤ (l.length : Int) + ks.length := by
 refine zgl (P := fun ks => (∀ k ∈ ks, (bodyP (mk k)).isSome = true) → ∀ (j : Nat) (hj : j < ks.length), ∃ sl, (vtsGo mk l ks).1[j]? = some (ks[j], sl) ∧ zcs (vtsGo mk l ks).2 (mk ks[j]) sl = true ∧ 1 ≤ sl ∧ sl ≤ (l.length : Int) + ks.length) (fun _ j hj => by simp at hj) (fun ks k ih hb j hj => ?_) ks
 ·have hl := zhq mk l ks
  rw [zde]
  simp only
  by_cases h : j < ks.length
  ·obtain ⟨sl, h1, h2, h3, h4⟩ := ih (fun q hq => hb q (by simp [hq])) j h
   refine ⟨sl, ?_, ?_, h3, by simp; omega⟩
   ·rw [List.getElem?_append_left (by omega), h1, List.getElem_append_left h]
   ·rw [List.getElem_append_left h]
    exact (zs7 _ _).sealed h2
  ·have hj' : j = ks.length := by simp at hj; omega
   subst hj'
   have h5 := msS_in (l := (vtsGo mk l ks).2) (hb k (by simp))
   have h6 := (zj4 mk l ks).2
   refine ⟨msS (vtsGo mk l ks).2 (mk k), ?_, ?_, h5.1, by simp; omega⟩
   ·rw [List.getElem?_append_right (by omega), hl]; simp
   ·simp only [List.getElem_append_right (Nat.le_refl _), Nat.sub_self, List.getElem_cons_zero]
    exact zmg (hb k (by simp))
def crtM (kind view inst seq : Int) (rs : List Rq) (k : Int) : Ms := ⟨kind, k, view, inst, seq, 0, rs, [], [], []⟩
def crtP (kind : Int) (f : Nat) (skip : Int) (l : Nt) (view inst seq : Int) (r : Rq) : Cp × Nt :=
 (⟨view, inst, seq, [rqS l r], (vtsGo (crtM kind view inst seq [rqS l r]) (rqSL l r) (quoKs f (skip % (f + 1)) (2 * f + 1))).1⟩, (vtsGo (crtM kind view inst seq [rqS l r]) (rqSL l r) (quoKs f (skip % (f + 1)) (2 * f + 1))).2)
theorem zxq (kind : Int) (f : Nat) (skip : Int) (l : Nt) (view inst seq : Int) (r : Rq) : Px l (crtP kind f skip l view inst seq r).2 ∧ (crtP kind f skip l view inst seq r).2.length ≤ l.length + (2 * f + 2) := by
 have h := zj4 (crtM kind view inst seq [rqS l r]) (rqSL l r) (quoKs f (skip % (f + 1)) (2 * f + 1))
 rw [zdf] at h
 have h2 : (rqSL l r).length ≤ l.length + 1 := by
  unfold rqSL
  split
  ·exact (zdh _ _ _).2
  ·omega
 exact ⟨(px_rqSL l r).trans h.1, by unfold crtP; simp only; omega⟩
theorem zl0 (n : Int) : (sgnB n).length ≤ 6 := by have := (zgn 5 (zigN n)).2; omega
theorem rq_len (r : Rq) : (reqB r).length ≤ 36 := by
 have a := zbf r.client
 have b := zbf r.time
 have c := zbf r.kind
 have d := zl0 r.key
 have e := zl0 r.val
 have g := zbf r.sl
 unfold reqB
 simp only [List.length_append]
 omega
theorem zcd {n : Int} (h0 : 0 ≤ n) (h1 : n ≤ 1000000000) : numOk n = true := by unfold numOk; simp; omega
structure RqGood (cl : Int) (r : Rq) : Prop where
 ok : okReq r cl = true
 cl4 : cl ≤ 4
theorem RqGood.w {cl : Int} {r : Rq} (h : RqGood cl r) : reqW r = true := by
 have h1 := h.ok
 have h2 := h.cl4
 unfold okReq inW zbl at h1
 unfold reqW numOk sgnOk
 simp only [Bool.and_eq_true, Bool.or_eq_true, decide_eq_true_eq] at h1 ⊢
 omega
theorem zud (r : Rq) : (listB reqB [r]).length ≤ 42 := by
 have := rq_len r
 have := zbf ((([r] : List Rq).length : Nat) : Int)
 unfold listB
 simp only [List.length_append, List.flatMap_cons, List.flatMap_nil, List.append_nil]
 omega
theorem zqr {kind view inst seq k : Int} {r : Rq} (hr : reqW r = true) (h1 : 0 ≤ kind) (h2 : kind ≤ 100) (v0 : 0 ≤ view) (v1 : view ≤ 100) (i0 : 0 ≤ inst) (i1 : inst ≤ 100) (s0 : 0 ≤ seq) (s1 : seq ≤ 100) (k0 : 0 ≤ k) (k1 : k ≤ 100) : (bodyP (crtM kind view inst seq [r] k)).isSome = true := by
 have a := zcd h1 (by omega)
 have b := zcd v0 (by omega)
 have c := zcd i0 (by omega)
 have d := zcd s0 (by omega)
 have e := zcd k0 (by omega)
 have g : sgnOk 0 = true := by decide
 have w : msW (crtM kind view inst seq [r] k) = true := by
  unfold msW crtM
  simp only [a, b, c, d, e, g, listW, hr, List.all_cons, List.all_nil, List.length_cons, List.length_nil]
  rfl
 have n1 := zbf kind
 have n2 := zbf view
 have n3 := zbf inst
 have n4 := zbf seq
 have n5 := zbf k
 have n6 := zl0 0
 have n7 := zud r
 have q1 : (listB vtB ([] : Vs)).length = 1 := by decide
 have q2 : (listB certB ([] : List Cp)).length = 1 := by decide
 have q3 : (listB partB ([] : List Pa)).length = 1 := by decide
 have hlen : (msB (crtM kind view inst seq [r] k)).length ≤ 65530 := by
  unfold msB crtM
  simp only [List.length_append]
  rw [q1, q2, q3]
  omega
 unfold bodyP
 rw [w, if_pos (by simp; omega)]
 rfl
theorem zxo {cl : Int} {l : Nt} {r : Rq} (h : RqGood cl r) (hn : l.length ≤ 1000000000) : RqGood cl (rqS l r) ∧ rqSealed (rqSL l r) cl (rqS l r) = true := by
 have hw : reqW { r with sl := 0 } = true := (zoz h.ok h.cl4).1
 have h1 := h.ok
 have hs := zht l (100 + r.client) (rqX r)
 have e1 : rqS l r = { r with sl := sealN l (100 + r.client) (rqX r) } := by unfold rqS; rw [if_pos hw]
 have e2 : rqSL l r = sealL l (100 + r.client) (rqX r) := by unfold rqSL; rw [if_pos hw]
 have ex : rqX r = rqB0 r := by unfold rqX; rw [if_pos hw]
 have hok : okReq (rqS l r) cl = true := by
  rw [e1]
  unfold okReq inW zbl at h1 ⊢
  simp only [Bool.and_eq_true, Bool.or_eq_true, decide_eq_true_eq] at h1 ⊢
  refine ⟨⟨⟨h1.1.1.1, ?_⟩, h1.1.2⟩, h1.2⟩
  omega
 refine ⟨⟨hok, h.cl4⟩, ?_⟩
 unfold rqSealed
 rw [hok, e2]
 have e3 : rqB0 (rqS l r) = rqX r := by rw [e1, ex]; rfl
 have e4 : (rqS l r).client = r.client := by rw [e1]
 have e5 : (rqS l r).sl = sealN l (100 + r.client) (rqX r) := by rw [e1]
 rw [e3, e4, e5, Bool.true_and, Bool.and_eq_true, decide_eq_true_eq, beq_iff_eq]
 exact ⟨zep _ _ _, zen _ _ _⟩
theorem zli {f : Nat} {s : Int} {i : Nat} (h0 : 0 ≤ s) (h1 : s ≤ f) (hi : i < 2 * f + 1) : 0 ≤ quoK f s i ∧ quoK f s i ≤ 3 * f ∧ (i : Int) ≤ quoK f s i := by
 unfold quoK
 split <;> omega
theorem quoK_lt {f : Nat} {s : Int} {i : Nat} : quoK f s i < quoK f s (i + 1) := by
 unfold quoK
 split <;> split <;> omega
structure CrtOk (kind : Int) (f : Nat) (cl : Int) (l : Nt) (c : Cp) (r : Rq) (vs : Vs) : Prop where
 rs : c.rs = [r]
 cert : za1 l kind c f cl = true
 ok : zeq f cl c = true
 vl : c.vs.length = 2 * f + 1
 w : certW c = true
theorem crt_ok {kind : Int} {f : Nat} {skip cl : Int} {l : Nt} {view inst seq : Int} {r : Rq} (h : RqGood cl r) (hn : l.length ≤ 900000000) (hf1 : 1 ≤ f) (hf2 : f ≤ 4) (hk0 : 0 ≤ kind) (hk1 : kind ≤ 100) (hv0 : 0 ≤ view) (hv1 : view ≤ 12) (hi0 : 0 ≤ inst) (hi1 : inst ≤ f) (hs0 : 1 ≤ seq) (hs1 : seq ≤ 16) :
  CrtOk kind f cl (crtP kind f skip l view inst seq r).2 (crtP kind f skip l view inst seq r).1 (rqS l r) (crtP kind f skip l view inst seq r).1.vs := by
 have hg := zxo (l := l) h (by omega)
 have hsk0 : 0 ≤ skip % ((f : Int) + 1) := Int.emod_nonneg _ (by omega)
 have hsk1 : skip % ((f : Int) + 1) ≤ f := by have := Int.emod_lt_of_pos skip (show 0 < (f : Int) + 1 by omega); omega
 have hlen := (zxq kind f skip l view inst seq r).2
 have hvl : (crtP kind f skip l view inst seq r).1.vs.length = 2 * f + 1 := by unfold crtP; simp only; rw [zhq, zdf]
 have hl1 : (rqSL l r).length ≤ l.length + 1 := by
  unfold rqSL
  split
  ·exact (zdh _ _ _).2
  ·omega
 have hat : ∀ j, j < 2 * f + 1 → ∃ sl, (crtP kind f skip l view inst seq r).1.vs[j]? = some (quoK f (skip % (f + 1)) j, sl) ∧ zcs (crtP kind f skip l view inst seq r).2 (crtM kind view inst seq [rqS l r] (quoK f (skip % (f + 1)) j)) sl = true ∧ 1 ≤ sl ∧ sl ≤ (l.length : Int) + 12 := fun j hj => by
  have hb : ∀ k ∈ quoKs f (skip % (f + 1)) (2 * f + 1), (bodyP (crtM kind view inst seq [rqS l r] k)).isSome = true := fun k hk => by
   unfold quoKs at hk
   simp only [List.mem_map, List.mem_range] at hk
   obtain ⟨i, hi, rfl⟩ := hk
   have := zli hsk0 hsk1 hi
   exact zqr hg.1.w hk0 (by omega) hv0 (by omega) hi0 (by omega) (by omega) (by omega) (by omega) (by omega)
  obtain ⟨sl, h1, h2, h3, h4⟩ := zwj (crtM kind view inst seq [rqS l r]) (rqSL l r) _ hb j (by rw [zdf]; exact hj)
  have e : (quoKs f (skip % (f + 1)) (2 * f + 1))[j]'(by rw [zdf]; exact hj) = quoK f (skip % (f + 1)) j := by unfold quoKs; simp
  rw [e] at h1 h2
  rw [zdf] at h4
  exact ⟨sl, h1, h2, h3, by omega⟩
 have hva : ∀ j, j < 2 * f + 1 → ∃ sl, zda (crtP kind f skip l view inst seq r).1.vs j = (quoK f (skip % (f + 1)) j, sl) ∧ zcs (crtP kind f skip l view inst seq r).2 (crtM kind view inst seq [rqS l r] (quoK f (skip % (f + 1)) j)) sl = true ∧ 1 ≤ sl ∧ sl ≤ (l.length : Int) + 12 := fun j hj => by
  obtain ⟨sl, h1, h2⟩ := hat j hj
  exact ⟨sl, by unfold zda; rw [List.getD_eq_getElem?_getD, h1]; rfl, h2⟩
 have hris : zcy (crtP kind f skip l view inst seq r).1.vs f = true := by
  unfold zcy
  rw [hvl]
  simp only [decide_true, Bool.true_and]
  refine zbe (fun j hj => ?_)
  obtain ⟨sl, h1, -⟩ := hva j hj
  have hq := zli hsk0 hsk1 hj
  rw [h1, Bool.and_eq_true, decide_eq_true_eq, decide_eq_true_eq]
  refine ⟨?_, by simp only; omega⟩
  cases j with
  | zero => simp only [lastV]; omega
  | succ j =>
   simp only [lastV]
   obtain ⟨sl', h3, -⟩ := hva j (by omega)
   rw [h3]
   exact quoK_lt
 have hpl : zbv f view inst seq = true := by
  unfold zbv inW
  simp only [Bool.and_eq_true, decide_eq_true_eq]
  omega
 have hre : ∀ k, k < 1 → reqAt [rqS l r] k = rqS l r := fun k hk => by
  have : k = 0 := by omega
  subst this; rfl
 refine ⟨rfl, ?_, ?_, hvl, ?_⟩
 ·unfold za1
  simp only [Bool.and_eq_true]
  refine ⟨hpl, ?_, ?_⟩
  ·refine Px.batch (l := rqSL l r) ((zj4 _ _ _).1) ?_
   show zee (rqSL l r) 4 cl [rqS l r] = true
   unfold zee
   simp only [Bool.and_eq_true, decide_eq_true_eq]
   refine ⟨by simp, zbe (fun k hk => ?_)⟩
   have hk' : k < 1 := by simpa using hk
   unfold zes
   rw [hre k hk', hg.2]
   have : k = 0 := by omega
   subst this
   simp
  ·unfold zg6
   rw [hris, Bool.true_and, hvl]
   refine zbe (fun j hj => ?_)
   obtain ⟨sl, h1, h2, -⟩ := hva j hj
   unfold zn5
   rw [h1]
   exact h2
 ·unfold zeq
  simp only [Bool.and_eq_true]
  refine ⟨⟨hpl, ?_⟩, ?_⟩
  ·show za7 [rqS l r] 0 4 cl = true
   unfold za7
   simp only [Bool.and_eq_true]
   refine ⟨zbe (fun k hk => ?_), by unfold inW; simp⟩
   rw [hre k (by simpa using hk)]
   exact hg.1.ok
  ·unfold zel
   rw [hris, Bool.and_true, hvl]
   refine zbe (fun j hj => ?_)
   obtain ⟨sl, h1, -, h3, h4⟩ := hva j hj
   rw [h1]
   unfold inW
   simp only [Bool.and_eq_true, decide_eq_true_eq]
   omega
 ·have hv : (crtP kind f skip l view inst seq r).1.vs.all vtW = true := by
   rw [List.all_eq_true]
   intro q hq
   obtain ⟨j, hj, rfl⟩ := List.getElem_of_mem hq
   obtain ⟨sl, h1, -, h3, h4⟩ := hat j (by omega)
   rw [List.getElem?_eq_getElem hj] at h1
   simp only [Option.some.injEq] at h1
   have hq := zli hsk0 hsk1 (show j < 2 * f + 1 by omega)
   rw [h1]
   unfold vtW numOk
   simp only [Bool.and_eq_true, decide_eq_true_eq]
   omega
  have a := zcd hv0 (by omega)
  have b := zcd hi0 (by omega)
  have c := zcd (show 0 ≤ seq by omega) (by omega)
  show (numOk view && (numOk inst && (numOk seq && (listW reqW [rqS l r] && listW vtW (crtP kind f skip l view inst seq r).1.vs)))) = true
  rw [a, b, c]
  unfold listW
  rw [hv, hvl]
  simp only [List.all_cons, List.all_nil, hg.1.w]
  simp
  omega
section
variable {B : Nat} {w0 w W W' : World} {ss rs : List Res} {nt nm rn : Nat} {vp : Value} {vt : Rn} {l : Nt}
abbrev balW (kind view inst seq : Int) (vb : Value) (bs : List Rq) (k : Int) : Mm := ⟨kind, k, view, inst, seq, 0, vb, bs, .slice none 0 0, [], .slice none 0 0, [], .slice none 0 0, []⟩
theorem zr0 (kind k : Int) {view inst seq : Int} {ao : Option Addr} {cap : Nat} {bs : List Rq} {vv : Value} (W : World) :
  Calls Tryz.prog 67 #[.int .i64 kind, .int .i64 k, .agg #[.int .i64 view, .int .i64 inst, .int .i64 seq, .slice ao bs.length cap, vv]] W fun e w' => e = .returned (.agg (mmA (balW kind view inst seq (.slice ao bs.length cap) bs k))) ∧ Upd [] W w' := by
 have hu : Upd [] W ((W.alloc (ctO view inst seq (.slice ao bs.length cap) vv)).alloc (mmO (balW kind view inst seq (.slice ao bs.length cap) bs k))) := ((Upd.refl [] W).alloc _).alloc _
 have hb := heap_alloc_new W (ctO view inst seq (.slice ao bs.length cap) vv)
 have y0 := zaa hb 0 rfl
 have y1 := zaa hb 1 rfl
 have y2 := zaa hb 2 rfl
 have y3 := zaa hb 3 rfl
 have HU := Lib.hid hu
 clear hb hu
 go_enter Tryz.func67, Tryz.ntmps67
 go_wp2_with fail
 generalize hw : World.alloc (World.alloc W _) _ = w2 at *
 obtain ⟨f0, f1, f2, f3, f4, f5, f6, f7, f8, f9⟩ := zai (w := w2) (m := balW kind view inst seq (.slice ao bs.length cap) bs k) (b := W.heap.size + 1) (by rw [← hw]; have := heap_alloc_new (W.alloc (ctO view inst seq (.slice ao bs.length cap) vv)) (mmB (balW kind view inst seq (.slice ao bs.length cap) bs k)); rw [za4] at this; exact this)
 simp only at f0 f1 f2 f3 f4 f5 f6 f7 f8 f9
 exact bodyPost_ret (v := .agg (mmA (balW kind view inst seq (.slice ao bs.length cap) bs k))) (by simp [results, Tryz.results67, go_sem, f0, f1, f2, f3, f4, f5, f6, f7, f8, f9]) rfl ⟨rfl, HU.out⟩
theorem zqs {kind view inst seq : Int} {ao : Option Addr} {cap : Nat} {bs : List Rq} {vv : Value} {p1 p2 : Nat} (hb : bs.length ≤ 1000) :
  MkC B w0 (blk p1 (.cells #[.int .i64 kind] 3 (0, 0)) :: blk p2 (ctO view inst seq (.slice ao bs.length cap) vv) :: batR (.slice ao bs.length cap) bs :: ss) 66 #[ptrV p1, ptrV p2] (balW kind view inst seq (.slice ao bs.length cap) bs) := by
 intro W rs k hk0 hk1 h hs
 obtain ⟨j1, h1⟩ := List.getElem?_of_mem (hs (blk p1 (.cells #[.int .i64 kind] 3 (0, 0))) (by simp))
 obtain ⟨j2, h2⟩ := List.getElem?_of_mem (hs (blk p2 (ctO view inst seq (.slice ao bs.length cap) vv)) (by simp))
 have b1 := h.blkAt j1 h1
 have b2 := h.blkAt j2 h2
 have hu0 : Upd [] W (W.alloc (mmB (nilMm 0 0 0 0 0 0))) := (Upd.refl [] W).alloc _
 have g1 : (W.alloc (mmB (nilMm 0 0 0 0 0 0))).heap[p1]? = some (.cells #[.int .i64 kind] 3 (0, 0)) := (hu0.block p1 (block_lt b1) (by simp)).trans b1
 have g2 : (W.alloc (mmB (nilMm 0 0 0 0 0 0))).heap[p2]? = some (ctO view inst seq (.slice ao bs.length cap) vv) := (hu0.block p2 (block_lt b2) (by simp)).trans b2
 have x0 := zaa g1 0 rfl
 have y0 := zaa g2 0 rfl
 have y1 := zaa g2 1 rfl
 have y2 := zaa g2 2 rfl
 have y3 := zaa g2 3 rfl
 have y4 := zaa g2 4 rfl
 have HB := Lib.hid (fun w => zr0 kind k (view := view) (inst := inst) (seq := seq) (ao := ao) (cap := cap) (bs := bs) (vv := vv) w)
 have H := Lib.hid (h.box (mmB (nilMm 0 0 0 0 0 0)))
 have HM := Lib.hid (hs (batR (.slice ao bs.length cap) bs) (by simp))
 clear h hs b1 b2 g1 g2 hu0 h1 h2
 show Calls Tryz.prog 66 #[.int .i64 k, ptrV p1, ptrV p2] W _
 go_enter Tryz.func66, Tryz.ntmps66
 go_wp2_with fail
 refine (HB.out _).mono ?_
 rintro e w1 ⟨rfl, hu⟩
 have H1 := Lib.hid (H.out.upd0 hu)
 clear hu HB H x0 y0 y1 y2 y3 y4
 obtain ⟨z0, z1, z2, z3, z4, z5, z6, z7, z8, z9⟩ := zai (H1.out.blkAt 0 rfl)
 simp only at z0 z1 z2 z3 z4 z5 z6 z7 z8 z9
 have zf := zab (H1.out.blkAt 0 rfl)
 have q0 := zf 0
 have q1 := zf 1
 have q2 := zf 2
 have q3 := zf 3
 have q4 := zf 4
 have q5 := zf 5
 have q6 := zf 6
 have q7 := zf 7
 have q8 := zf 8
 have q9 := zf 9
 have HR := Lib.hid (zck (v0 := .int .i64 kind) (v1 := .int .i64 k) (v2 := .int .i64 view) (v3 := .int .i64 inst) (v4 := .int .i64 seq) (v5 := .int .i64 0) (v6 := .slice ao bs.length cap) (v7 := .slice none 0 0) (v8 := .slice none 0 0) (v9 := .slice none 0 0) H1.out)
 clear zf H1
 go_wp2_with fail
 generalize World.setCell _ _ _ = y at *
 obtain ⟨f0, f1, f2, f3, f4, f5, f6, f7, f8, f9⟩ := zai (w := y) (m := balW kind view inst seq (.slice ao bs.length cap) bs k) (HR.out.blkAt 0 rfl)
 simp only at f0 f1 f2 f3 f4 f5 f6 f7 f8 f9
 refine bodyPost_ret (v := .agg (mmA (balW kind view inst seq (.slice ao bs.length cap) bs k))) (by simp [results, Tryz.results66, go_sem, f0, f1, f2, f3, f4, f5, f6, f7, f8, f9]) rfl ⟨rfl, ?_⟩
 have h2 := HR.out.drop
 have h3 : Own B w0 y (batR (.slice ao bs.length cap) bs :: rs) := h2.copy HM.out rfl
 have h4 := zc3 2 h3
 have h5 : Own B w0 y (ctsR [] :: _) := h4.mkCts (by simp)
 have h6 := zc3 5 h5
 have h7 : Own B w0 y (ptsR [] :: _) := h6.mkPts (by simp)
 exact zc3 4 h7
end
theorem Tryz.infoRq : (Tryz.prog.info? 38).map (fun i => (i.zero, i.size, i.bytes)) = some (some (.agg #[.int .i64 0, .int .i64 0, .int .i64 0, .int .i64 0, .int .i64 0, .int .i64 0]), 6, 48) := by kernel_rfl
section
variable {B : Nat} {w0 w W W' : World} {ss rs : List Res} {nt nm rn : Nat} {vp : Value} {vt : Rn} {l : Nt}
theorem zne (r : Rq) (W : World) : Calls Tryz.prog 105 #[.slice none 0 0, rqAgg r] W fun e w' => e = .returned (.bool false) ∧ Upd [] W w' := by
 have hu : Upd [] W (W.alloc (rqO r)) := (Upd.refl [] W).alloc _
 unfold rqAgg
 go_enter Tryz.func105, Tryz.ntmps105
 go_wp2_with fail
 go_loopw [5] (fun i wr => i = .int .i64 0 ∧ wr = W.alloc (rqO r)) (fun _ _ => 0)
 case atStart => exact ⟨rfl, rfl⟩
 case round =>
  obtain ⟨rfl, rfl⟩ := hrel
  go_wp2_with fail
  go_ret
  exact ⟨rfl, hu⟩
theorem zqp {ao : Option Addr} {cap : Nat} {r : Rq} (h : Own B w0 W (batR (.slice ao 1 cap) [r] :: ss)) :
  Calls Tryz.prog 43 #[.slice ao 1 cap] W fun e w' => ∃ a' c', e = .returned (.slice a' 1 c') ∧ Own B w0 w' (batR (.slice a' 1 c') [r] :: batR (.slice ao 1 cap) [r] :: ss) := by
 obtain ⟨i0, hi, hz0, hz1, hz2⟩ := info_parts Tryz.infoRq
 obtain ⟨ao', cap', hv', hbc, -, -, -, h5⟩ := zdq (h.get 0 rfl)
 simp only [Value.slice.injEq] at hv'
 obtain ⟨rfl, -, rfl⟩ := hv'
 obtain ⟨b, o, rfl, hbs, hcs⟩ := h5 (by simp)
 obtain ⟨q0, q1, q2, q3, q4, q5⟩ := zbp hcs 0 r (by simp)
 simp only [Nat.zero_mul, Nat.add_zero] at q0 q1 q2 q3 q4 q5
 have HH := Lib.hid (zne r)
 unfold rqAgg at HH
 obtain ⟨client, time, kind, key, val, sl⟩ := r
 simp only at q0 q1 q2 q3 q4 q5 HH
 have H := Lib.hid h
 clear h hcs h5 hbs
 go_enter Tryz.func43, Tryz.ntmps43
 go_wp2_with fail
 go_loopw [3, 4] (fun t i wr => (i = .int .i64 0 ∧ t = .slice none 0 0 ∧ wr = W) ∨ (∃ a' c', i = .int .i64 1 ∧ t = .slice a' 1 c' ∧ Hid (Own B w0 wr (batR (.slice a' 1 c') [⟨client, time, kind, key, val, sl⟩] :: batR (.slice (some ⟨b, o, none⟩) 1 cap) [⟨client, time, kind, key, val, sl⟩] :: ss)))) (fun _ i _ => 1 - (intOf i).toNat)
 case atStart => exact .inl ⟨rfl, rfl, rfl⟩
 case round =>
  rcases hrel with ⟨rfl, rfl, rfl⟩ | ⟨a', c', rfl, rfl, H2⟩
  ·have hc1 : (1 : Int) ≤ (cap : Int) := by simp at hbc; omega
   go_wp2_with fail
   refine (HH.out _).mono ?_
   rintro e w1 ⟨rfl, hu⟩
   have H1 := Lib.hid (H.out.upd0 hu)
   clear hu HH H q0 q1 q2 q3 q4 q5
   go_upto_block 2 with fail
   go_cut [5] (fun k wx => k = .int .i64 0 ∧ Hid (Own B w0 wx (batR (.slice (some ⟨b, o, none⟩) 1 cap) [⟨client, time, kind, key, val, sl⟩] :: ss)))
   case first =>
    go_wp2_with fail
    go_loopw [5] (fun k wr => k = .int .i64 0 ∧ wr = w1) (fun _ _ => 0)
    case atStart => exact ⟨rfl, rfl⟩
    case round =>
     obtain ⟨rfl, rfl⟩ := hrel
     go_wp2_with fail
     go_quiet (fail)
     go_wp2_with fail
     go_meet
     exact ⟨rfl, Lib.hid (H1.out.upd0 ((Upd.refl _ _).drewN nq))⟩
   case rest =>
    obtain ⟨rfl, H3⟩ := hcut
    clear H1
    have h3 := H3.out.drew
    obtain ⟨ao', cap', hv', -, -, -, -, h5⟩ := zdq (h3.get 0 rfl)
    simp only [Value.slice.injEq] at hv'
    obtain ⟨hao, -, -⟩ := hv'
    obtain ⟨b', o', hbo, hbs, hcs⟩ := h5 (by simp)
    rw [← hao] at hbo
    simp only [Option.some.injEq, Addr.mk.injEq, and_true] at hbo
    obtain ⟨rfl, rfl⟩ := hbo
    obtain ⟨q0, q1, q2, q3, q4, q5⟩ := zbp hcs 0 ⟨client, time, kind, key, val, sl⟩ (by simp)
    simp only [Nat.zero_mul, Nat.add_zero] at q0 q1 q2 q3 q4 q5
    clear hcs h5 hbs hao h3
    go_upto_region 9 with fail
    have HO := Lib.hid ((H3.out.box (.cells #[.int .i64 client, .int .i64 time, .int .i64 kind, .int .i64 key, .int .i64 val, .int .i64 sl] 38 (0, 0))).drew.row0 (E := 38) (sz := 6))
    have RV : Hid (Reads (wc.alloc (.cells #[.int .i64 client, .int .i64 time, .int .i64 kind, .int .i64 key, .int .i64 val, .int .i64 sl] 38 (0, 0))).drew (.slice (some ⟨wc.heap.size, 0, none⟩) 1 1) 6 1 (zam [⟨client, time, kind, key, val, sl⟩])) := Lib.hid ⟨_, _, rfl, by omega, by unfold maxLen; omega, rfl, (fun e => by cases e), fun _ => ⟨wc.heap.size, 0, rfl, by simp, fun j hj => by rw [Nat.zero_add]; exact (zac (heap_alloc_new wc _) j).trans (by simp [zam, za5])⟩⟩
    have RO : Hid (∀ u ∈ zam [⟨client, time, kind, key, val, sl⟩], u.oneCell' = true) := Lib.hid (fun u hu => by simp [zam, za5] at hu; rcases hu with rfl | rfl | rfl | rfl | rfl | rfl <;> rfl)
    have HM1 : Hid (0 + 1 ≤ maxLen) := Lib.hid (by unfold maxLen; omega)
    have HM2 : Hid ((0 + 1) * 48 ≤ 140737488355328) := Lib.hid (by omega)
    refine Mix.wp_text2 (by kernel_rfl) (by kernel_rfl) ?_
    go_wp2_with (at_builtin; refine zci rfl (.tmp 39) (.tmp 48) 39 rfl 38 i0 (.agg #[.int .i64 0, .int .i64 0, .int .i64 0, .int .i64 0, .int .i64 0, .int .i64 0]) 6 48 Tryz.underlying39 hi hz0 hz1 hz2 rfl (by decide) _ 0 _ rfl HO.out _ 1 _ rfl RV.out RO.out HM1.out HM2.out ?_)
    intro v4 w4 h4
    obtain ⟨a4, c4, rfl⟩ := zcn (zak h4.head)
    have HF : Hid (Own B w0 w4 (batR (.slice a4 1 c4) [⟨client, time, kind, key, val, sl⟩] :: batR (.slice (some ⟨b, o, none⟩) 1 cap) [⟨client, time, kind, key, val, sl⟩] :: ss)) := Lib.hid ((show Own B w0 w4 (batR (.slice a4 1 c4) [⟨client, time, kind, key, val, sl⟩] :: blk _ _ :: _) from h4.toRed).swap.drop)
    clear h4 HO RV RO HM1 HM2 H3
    go_wp2_with fail
    refine ⟨by rfl, ?_⟩
    go_wp2_with fail
    go_roundw
    case rel => exact .inr ⟨a4, c4, by go_num, rfl, HF⟩
    case measure => simp [intOf]
  ·go_wp2_with fail
   go_ret
   exact ⟨a', c', rfl, H2.out⟩
end
section
variable {B : Nat} {w0 w W W' : World} {ss rs : List Res} {nt nm rn : Nat} {vp : Value} {vt : Rn} {l : Nt}
theorem znb {ao : Option Addr} {cap : Nat} {r : Rq} (h : Own B w0 W (twR nt nm rn vp vt l (batR (.slice ao 1 cap) [r] :: ss))) (hl : NtOk l) (hn : l.length ≤ 900000000) :
  Calls Tryz.prog 64 #[.agg (twA nt rn), .slice ao 1 cap] W fun e w' => ∃ a' c' vp' vt', e = .returned (.slice a' 1 c') ∧ Own B w0 w' (batR (.slice a' 1 c') [rqS l r] :: twR nt nm rn vp' vt' (rqSL l r) (batR (.slice ao 1 cap) [r] :: ss)) := by
 obtain ⟨i0, hi, hz0, hz1, hz2⟩ := info_parts Tryz.infoRq
 obtain ⟨ao', cap', hv', hbc, -, -, -, h5⟩ := zdq (h.get 5 rfl)
 simp only [Value.slice.injEq] at hv'
 obtain ⟨rfl, -, rfl⟩ := hv'
 obtain ⟨b, o, rfl, hbs, hcs⟩ := h5 (by simp)
 have H := Lib.hid (h.box (twO nt rn))
 have HL := Lib.hid hl
 have hc1 : (1 : Int) ≤ (cap : Int) := by simp at hbc; omega
 clear h hl h5 hbs hcs hbc
 go_enter Tryz.func64, Tryz.ntmps64
 go_wp2_with fail
 go_loopw [5, 9] (fun t i wr => (i = .int .i64 0 ∧ t = .slice none 0 0 ∧ wr = W.alloc (twO nt rn)) ∨ (∃ a' c' vp' vt', i = .int .i64 1 ∧ t = .slice a' 1 c' ∧ Hid (Own B w0 wr (batR (.slice a' 1 c') [rqS l r] :: twR nt nm rn vp' vt' (rqSL l r) (batR (.slice (some ⟨b, o, none⟩) 1 cap) [r] :: ss))))) (fun _ i _ => 1 - (intOf i).toNat)
 case atStart => exact .inl ⟨rfl, rfl, rfl⟩
 case round =>
  rcases hrel with ⟨rfl, rfl, rfl⟩ | ⟨a', c', vp', vt', rfl, rfl, H2⟩
  ·go_upto_region 5 with fail
   have h3 := H.out.drew
   obtain ⟨ao', cap', hv', -, -, -, -, h5⟩ := zdq (h3.get 6 rfl)
   simp only [Value.slice.injEq] at hv'
   obtain ⟨hao, -, -⟩ := hv'
   obtain ⟨b', o', hbo, hbs, hcs⟩ := h5 (by simp)
   rw [← hao] at hbo
   simp only [Option.some.injEq, Addr.mk.injEq, and_true] at hbo
   obtain ⟨rfl, rfl⟩ := hbo
   obtain ⟨q0, q1, q2, q3, q4, q5⟩ := zbp hcs 0 r (by simp)
   simp only [Nat.zero_mul, Nat.add_zero] at q0 q1 q2 q3 q4 q5
   have t0 := zaa (h3.blkAt 0 rfl) 0 rfl
   have t1 := zaa (h3.blkAt 0 rfl) 1 rfl
   have HRQ := Lib.hid (zrm r h3.drop HL.out (by omega))
   unfold rqAgg at HRQ
   clear hcs h5 hbs hao h3
   refine Mix.wp_text2 (by kernel_rfl) (by kernel_rfl) ?_
   go_wp2_with fail
   refine HRQ.out.mono ?_
   rintro e w1 ⟨rfl, vp1, vt1, h6⟩
   generalize hrs : rqS l r = r' at *
   generalize hrl : rqSL l r = l' at *
   have HRS := Lib.hid hrs
   have HRL := Lib.hid hrl
   clear hrs hrl
   clear q0 q1 q2 q3 q4 q5 t0 t1 HRQ H
   obtain ⟨client, time, kind, key, val, sl⟩ := r'
   have HX := Lib.hid ((h6.row0 (E := 38) (sz := 6)).box (.cells #[.int .i64 client, .int .i64 time, .int .i64 kind, .int .i64 key, .int .i64 val, .int .i64 sl] 38 (0, 0)))
   have HN5 := Lib.hid (heap_alloc_new w1 (.cells #[.int .i64 client, .int .i64 time, .int .i64 kind, .int .i64 key, .int .i64 val, .int .i64 sl] 38 (0, 0)))
   clear h6
   go_wp2_with (at_builtin; refine zba rfl (.tmp 12) (.tmp 19) 39 rfl 38 i0 (.agg #[.int .i64 0, .int .i64 0, .int .i64 0, .int .i64 0, .int .i64 0, .int .i64 0]) 6 48 Tryz.underlying39 hi hz0 hz1 hz2 rfl (by decide) HX.out 1 (.slice none 0 0) 0 [] rfl rfl w1.heap.size #[.int .i64 client, .int .i64 time, .int .i64 kind, .int .i64 key, .int .i64 val, .int .i64 sl] 38 (0, 0) rfl HN5.out rfl (by simp [Value.oneCell']) (by unfold maxLen; omega) (by omega) ?_)
   intro g6 cap6 w6 h8
   have HF : Hid (Own B w0 w6 (batR (.slice (some ⟨g6, 0, none⟩) 1 cap6) [⟨client, time, kind, key, val, sl⟩] :: twR nt nm rn vp1 vt1 l' (batR (.slice (some ⟨b, o, none⟩) 1 cap) [r] :: ss))) := Lib.hid h8.drop.toRed
   clear h8 HX HN5
   go_wp2_with fail
   refine ⟨by rfl, ?_⟩
   go_wp2_with fail
   go_roundw
   case rel => exact .inr ⟨_, _, vp1, vt1, by go_num, by go_num, Lib.hid (by rw [HRS.out, HRL.out]; exact HF.out)⟩
   case measure => simp [intOf]
  ·have HOR := Lib.hid (zqp H2.out)
   go_wp2_with fail
   refine HOR.out.mono ?_
   rintro e w2 ⟨a2, c2, rfl, h2⟩
   have HF := Lib.hid (h2.swap.drop)
   clear h2 HOR H2
   go_wp2_with fail
   go_ret
   exact ⟨a2, c2, vp', vt', rfl, HF.out⟩
theorem Tryz.mkf (fn : Fn) (first cap : Array Value) (w : World) : (Instr.makeFunc fn first cap).run Tryz.prog w = .ok (.func fn first cap) w := rfl
theorem zoa {kind skip view inst seq : Int} {f : Nat} {ao : Option Addr} {cap : Nat} {r : Rq} (h : Own B w0 W (twR nt nm rn vp vt l (batR (.slice ao 1 cap) [r] :: ss))) (hl : NtOk l) (hn : l.length ≤ 800000000) (hf1 : 1 ≤ f) (hf2 : f ≤ 4) :
  Calls Tryz.prog 20 #[.agg (twA nt rn), .int .i64 kind, .int .i64 f, .int .i64 skip, .agg #[.int .i64 view, .int .i64 inst, .int .i64 seq, .slice ao 1 cap, .slice none 0 0]] W fun e w' => ∃ a1 c1 a2 c2 vp' vt', e = .returned (.agg #[.int .i64 view, .int .i64 inst, .int .i64 seq, .slice a1 1 c1, .slice a2 (2 * f + 1) c2]) ∧ Own B w0 w' (redR (.slice a2 (2 * f + 1) c2) 2 (2 * f + 1) (zan (crtP kind f skip l view inst seq r).1.vs) :: batR (.slice a1 1 c1) [rqS l r] :: twR nt nm rn vp' vt' (crtP kind f skip l view inst seq r).2 (batR (.slice ao 1 cap) [r] :: ss)) := by
 have h1 := (((h.box (twO nt rn)).box (.cells #[.int .i64 kind] 3 (0, 0))).box (ctO view inst seq (.slice ao 1 cap) (.slice none 0 0))).box (ctO 0 0 0 (.slice none 0 0) (.slice none 0 0))
 simp only [za4] at h1
 have hmf := Tryz.mkf
 have H1 := Lib.hid h1
 have HB := Lib.hid (znb (h1.perm ((List.perm_append_comm (l₁ := [_, _, _, _]) (l₂ := [_, _, _, _, _, _])).append_right ss)) hl (by omega))
 have HL1 : Hid (NtOk (rqSL l r)) := Lib.hid (by
  unfold rqSL
  split
  ·rename_i hw
   exact zfc hl (zv6 hw)
  ·exact hl)
 have HN1 : Hid ((rqSL l r).length ≤ 900000000) := Lib.hid (by
  unfold rqSL
  split
  ·have := (zdh l (100 + r.client) (rqX r)).2; omega
  ·omega)
 clear h h1 hl
 go_enter Tryz.func20, Tryz.ntmps20
 go_wp2_with fail
 refine HB.out.mono ?_
 rintro e w1 ⟨a1, c1, vp1, vt1, rfl, h2⟩
 clear HB H1
 generalize W.heap.size = q at *
 have h3 : Own B w0 w1 (blk (q + 1 + 1) (ctO view inst seq (.slice ao 1 cap) (.slice none 0 0)) :: batR (.slice a1 1 c1) [rqS l r] :: twR nt nm rn vp1 vt1 (rqSL l r) (batR (.slice ao 1 cap) [r] :: blk (q + 1 + 1 + 1) (ctO 0 0 0 (.slice none 0 0) (.slice none 0 0)) :: blk (q + 1) (.cells #[.int .i64 kind] 3 (0, 0)) :: blk q (twO nt rn) :: ss)) := h2.front 8 rfl rfl
 have x3 := zaa (h3.blkAt 0 rfl) 3 rfl
 have z3 := zab (h3.blkAt 0 rfl) 3
 have h4 := Own.storeTo h3 3 (.slice a1 1 c1) (o' := ctO view inst seq (.slice a1 1 c1) (.slice none 0 0)) rfl
 have h5 : Own B w0 (w1.setCell ⟨q + 1 + 1, 3, none⟩ (.slice a1 1 c1)) (twR nt nm rn vp1 vt1 (rqSL l r) (blk (q + 1) (.cells #[.int .i64 kind] 3 (0, 0)) :: blk (q + 1 + 1) (ctO view inst seq (.slice a1 1 c1) (.slice none 0 0)) :: batR (.slice a1 1 c1) [rqS l r] :: (batR (.slice ao 1 cap) [r] :: blk (q + 1 + 1 + 1) (ctO 0 0 0 (.slice none 0 0) (.slice none 0 0)) :: blk q (twO nt rn) :: ss))) := by
  have h6 := (h4.perm ((List.perm_append_comm (l₁ := [_, _]) (l₂ := [_, _, _, _, _])).append_right _))
  have h7 := h6.front 9 rfl rfl
  have h8 := h7.perm ((List.perm_append_comm (l₁ := [_]) (l₂ := [_, _, _, _, _])).append_right _)
  exact h8
 have HV := Lib.hid (zkz (skip := skip) h5 (fun k => ⟨by simp, by simp, by simp, by simp⟩) (fun k => rfl) HL1.out HN1.out hf1 hf2 (zqs (bs := [rqS l r]) (by simp)))
 have t0 := zaa (h5.blkAt 10 rfl) 0 rfl
 have t1 := zaa (h5.blkAt 10 rfl) 1 rfl
 clear h2 h3 h4 h5
 go_wp2_with fail
 refine HV.out.mono ?_
 rintro e w3 ⟨v2, vp2, vt2, rfl, h6⟩
 have hcr : (crtP kind f skip l view inst seq r) = (⟨view, inst, seq, [rqS l r], (vtsGo (fun k => (balW kind view inst seq (.slice a1 1 c1) [rqS l r] k).ms) (rqSL l r) (quoKs f (skip % (f + 1)) (2 * f + 1))).1⟩, (vtsGo (fun k => (balW kind view inst seq (.slice a1 1 c1) [rqS l r] k).ms) (rqSL l r) (quoKs f (skip % (f + 1)) (2 * f + 1))).2) := rfl
 have HCR := Lib.hid hcr
 clear hcr
 replace h6 : Own B w0 w3 (redR v2 2 (2 * f + 1) (zan (vtsGo (fun k => (balW kind view inst seq (.slice a1 1 c1) [rqS l r] k).ms) (rqSL l r) (quoKs f (skip % (f + 1)) (2 * f + 1))).1) :: twR nt nm rn vp2 vt2 (vtsGo (fun k => (balW kind view inst seq (.slice a1 1 c1) [rqS l r] k).ms) (rqSL l r) (quoKs f (skip % (f + 1)) (2 * f + 1))).2 (blk (q + 1) (.cells #[.int .i64 kind] 3 (0, 0)) :: blk (q + 1 + 1) (ctO view inst seq (.slice a1 1 c1) (.slice none 0 0)) :: batR (.slice a1 1 c1) [rqS l r] :: (batR (.slice ao 1 cap) [r] :: blk (q + 1 + 1 + 1) (ctO 0 0 0 (.slice none 0 0) (.slice none 0 0)) :: blk q (twO nt rn) :: ss))) := h6
 generalize vtsGo (fun k => (balW kind view inst seq (.slice a1 1 c1) [rqS l r] k).ms) (rqSL l r) (quoKs f (skip % (f + 1)) (2 * f + 1)) = VG at *
 obtain ⟨A, l3⟩ := VG
 simp only at h6 HCR
 clear HV t0 t1 x3 z3 HL1 HN1
 obtain ⟨a2, c2, rfl⟩ : ∃ a c, v2 = .slice a (2 * f + 1) c := let ⟨a, c, e, _⟩ := zad (k := 0) h6 rfl; ⟨a, c, e⟩
 have h7 := h6.front 7 rfl rfl
 dsimp only [List.eraseIdx] at h7
 have x4 := zaa (h7.blkAt 0 rfl) 4 rfl
 have z4 := zab (h7.blkAt 0 rfl) 4
 have h8 := Own.storeTo h7 4 (.slice a2 (2 * f + 1) c2) (o' := ctO view inst seq (.slice a1 1 c1) (.slice a2 (2 * f + 1) c2)) rfl
 have y0 := zaa (h8.blkAt 0 rfl) 0 rfl
 have y1 := zaa (h8.blkAt 0 rfl) 1 rfl
 have y2 := zaa (h8.blkAt 0 rfl) 2 rfl
 have y3 := zaa (h8.blkAt 0 rfl) 3 rfl
 have y4 := zaa (h8.blkAt 0 rfl) 4 rfl
 have h9 := h8.front 10 rfl rfl
 dsimp only [List.eraseIdx] at h9
 have u0 := zaa (h9.blkAt 0 rfl) 0 rfl
 have u1 := zaa (h9.blkAt 0 rfl) 1 rfl
 have u2 := zaa (h9.blkAt 0 rfl) 2 rfl
 have u3 := zaa (h9.blkAt 0 rfl) 3 rfl
 have u4 := zaa (h9.blkAt 0 rfl) 4 rfl
 have f0 := zab (h9.blkAt 0 rfl) 0
 have f1 := zab (h9.blkAt 0 rfl) 1
 have f2 := zab (h9.blkAt 0 rfl) 2
 have f3 := zab (h9.blkAt 0 rfl) 3
 have f4 := zab (h9.blkAt 0 rfl) 4
 have H10 := Lib.hid (Own.five (v0 := .int .i64 view) (v1 := .int .i64 inst) (v2 := .int .i64 seq) (v3 := .slice a1 1 c1) (v4 := .slice a2 (2 * f + 1) c2) h9)
 clear h6 h7 h8 h9
 go_wp2_with fail
 generalize World.setCell _ _ _ = y at *
 have g0 := zaa (H10.out.blkAt 0 rfl) 0 rfl
 have g1 := zaa (H10.out.blkAt 0 rfl) 1 rfl
 have g2 := zaa (H10.out.blkAt 0 rfl) 2 rfl
 have g3 := zaa (H10.out.blkAt 0 rfl) 3 rfl
 have g4 := zaa (H10.out.blkAt 0 rfl) 4 rfl
 refine bodyPost_ret (v := .agg #[.int .i64 view, .int .i64 inst, .int .i64 seq, .slice a1 1 c1, .slice a2 (2 * f + 1) c2]) (by simp [results, Tryz.results20, go_sem, g0, g1, g2, g3, g4]) rfl ⟨a1, c1, a2, c2, vp2, vt2, rfl, ?_⟩
 rw [HCR.out]
 simp only
 have k1 := (H10.out.drop.drop).dropAt 6 (by simp)
 dsimp only [List.eraseIdx] at k1
 have k2 := k1.dropAt 8 (by simp)
 dsimp only [List.eraseIdx] at k2
 have k3 := k2.front 6 rfl rfl
 dsimp only [List.eraseIdx] at k3
 exact k3.swap
end
section
variable {B : Nat} {w0 w W W' : World} {ss rs : List Res} {x : Np} {s s' : Ns} {l l' : Nt}
theorem zs3 {m : Mm} {sl : Int} {c : Ct} {fin : Int × NSt} (hk : m.kind = 9) (hcs : m.cts = [c]) (hfin : fin = zbm c.cp (s, l)) (ht : s.tab = []) (hn : l.length ≤ 800000000) (ho : s.out.length ≤ 800000000) : TakeC B w0 x s l 98 m sl fin := by
 intro W ss h
 obtain ⟨kind, fm, view, inst, seq, res, vb, rs, vv, vs, vc, cts, vp, pts⟩ := m
 obtain ⟨r0, hs0, -⟩ := h.side
 obtain ⟨a1, c1, rfl⟩ : ∃ a c, vb = .slice a rs.length c := let ⟨a, c, e, _⟩ := zad (k := 5) hs0 rfl; ⟨a, c, e⟩
 obtain ⟨a2, c2, rfl⟩ : ∃ a c, vv = .slice a vs.length c := let ⟨a, c, e, _⟩ := zad (k := 4) hs0 rfl; ⟨a, c, e⟩
 obtain ⟨a3, c3, rfl⟩ : ∃ a c, vc = .slice a cts.length c := let ⟨a, c, e, _⟩ := zad (k := 2) hs0 rfl; ⟨a, c, e⟩
 obtain ⟨a4, c4, rfl⟩ : ∃ a c, vp = .slice a pts.length c := let ⟨a, c, e, _⟩ := zad (k := 0) hs0 rfl; ⟨a, c, e⟩
 simp only at hk hcs
 subst hk hcs
 have hct := zvs hs0 3 rfl c (by simp)
 have hcw : CtW W c := ⟨hct.b.bat, hct.bn, hct.v.1, hct.vn⟩
 obtain ⟨⟨b1, k1, e1⟩, b2, k2, e2⟩ := hcw.slices
 obtain ⟨ao', cap', hv', hbc, -, -, -, h5⟩ := zad (k := 2) hs0 rfl
 simp only [Value.slice.injEq] at hv'
 obtain ⟨rfl, -, rfl⟩ := hv'
 obtain ⟨b, o, rfl, hbs, hcs⟩ := h5 (by simp)
 have q0 := hcs 0 (by simp [zal])
 have q1 := hcs 1 (by simp [zal])
 have q2 := hcs 2 (by simp [zal])
 have q3 := hcs 3 (by simp [zal])
 have q4 := hcs 4 (by simp [zal])
 simp only [List.flatMap_cons, List.flatMap_nil, List.append_nil, zal, List.getElem?_cons_zero, List.getElem?_cons_succ, Nat.add_zero] at q0 q1 q2 q3 q4
 have hcap : (1 : Int) ≤ (c3 : Int) := by simp at hbc; omega
 have h1 := h.onSide (ss' := batR c.vb c.rs :: redR c.vv 2 c.vs.length (zan c.vs) :: mmR ⟨9, fm, view, inst, seq, res, .slice a1 rs.length c1, rs, .slice a2 vs.length c2, vs, .slice (some ⟨b, o, none⟩) [c].length c3, [c], .slice a4 pts.length c4, pts⟩ ss) (fun r hr => by
  have hct := zvs hr 3 rfl c (by simp)
  have g1 := hr.mkRed hct.v
  exact g1.mkRed (by rw [zs0 rfl]; exact hct.b))
 have H8 := Lib.hid (zp7 (h1.alloc (mmO ⟨9, fm, view, inst, seq, res, .slice a1 rs.length c1, rs, .slice a2 vs.length c2, vs, .slice (some ⟨b, o, none⟩) [c].length c3, [c], .slice a4 pts.length c4, pts⟩)) ht (hcw.upd ((Upd.refl [] W).alloc _)) hn ho)
 rw [← hfin] at H8
 have hb := heap_alloc_new W (mmO ⟨9, fm, view, inst, seq, res, .slice a1 rs.length c1, rs, .slice a2 vs.length c2, vs, .slice (some ⟨b, o, none⟩) 1 c3, [c], .slice a4 pts.length c4, pts⟩)
 have p0 := zaf (o := mmO ⟨9, fm, view, inst, seq, res, .slice a1 rs.length c1, rs, .slice a2 vs.length c2, vs, .slice (some ⟨b, o, none⟩) 1 c3, [c], .slice a4 pts.length c4, pts⟩) q0
 have p1 := zaf (o := mmO ⟨9, fm, view, inst, seq, res, .slice a1 rs.length c1, rs, .slice a2 vs.length c2, vs, .slice (some ⟨b, o, none⟩) 1 c3, [c], .slice a4 pts.length c4, pts⟩) q1
 have p2 := zaf (o := mmO ⟨9, fm, view, inst, seq, res, .slice a1 rs.length c1, rs, .slice a2 vs.length c2, vs, .slice (some ⟨b, o, none⟩) 1 c3, [c], .slice a4 pts.length c4, pts⟩) q2
 have p3 := zaf (o := mmO ⟨9, fm, view, inst, seq, res, .slice a1 rs.length c1, rs, .slice a2 vs.length c2, vs, .slice (some ⟨b, o, none⟩) 1 c3, [c], .slice a4 pts.length c4, pts⟩) q3
 have p4 := zaf (o := mmO ⟨9, fm, view, inst, seq, res, .slice a1 rs.length c1, rs, .slice a2 vs.length c2, vs, .slice (some ⟨b, o, none⟩) 1 c3, [c], .slice a4 pts.length c4, pts⟩) q4
 obtain ⟨view', inst', seq', vb', vv', bs', vs'⟩ := c
 simp only at e1 e2
 subst e1 e2
 clear hs0 h h1 hct hcw hcs h5 q0 q1 q2 q3 q4 hfin ht hbs hbc
 go_enter Tryz.func98, Tryz.ntmps98
 go_wp2_with fail
 refine H8.out.mono ?_
 rintro e w2 ⟨rfl, h2⟩
 have HF := Lib.hid h2.drop.drop
 clear h2 H8 hb p0 p1 p2 p3 p4
 go_wp2_with fail
 go_ret
 exact ⟨rfl, HF.out⟩
end
end Go.Proofs.YtannckelmojkoaaGreat
