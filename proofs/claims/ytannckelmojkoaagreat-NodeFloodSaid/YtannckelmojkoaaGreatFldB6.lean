/- Parts of the proof, one behind the other. -/
import Derived.Test.YtannckelmojkoaaGreatFldB5
import Derived.Deep.MidRow

/- inst: Pre, Next. -/
namespace Go.Proofs.YtannckelmojkoaaGreat
open Go.RowKit Go.Heap

section
variable {B : Nat} {w0 W W' : World} {ss rs : List Res} {x : Ins}

theorem in_blk {b : Nat} {o : Obj} (h : Own B w0 W rs) (hm : blk b o ∈ rs) : W.heap[b]? = some o := blk_out (h.all _ hm).1

theorem done_le {st : In} : doneI st ≤ st.l.length := by
  unfold doneI
  exact (List.takeWhile_sublist _).length_le

theorem ins_done_le (h : InsOk x) : doneI x.st ≤ 16 := by
  have := done_le (st := x.st)
  simp [Ins.st, h.n] at this
  exact this

theorem pre_off {seq : Int} {st : In} (hk : idx seq = none) (l : List Rq) : preB st seq = false ∧ preI st seq l = st := by
  simp [preB, preI, plAt_none hk, hk]

theorem pre_no {seq : Int} {st : In} (h : preB st seq = false) (l : List Rq) : preI st seq l = st := by
  unfold preI
  rw [h]
  cases idx seq <;> rfl

/-- Cells of an instance of which a slot lies apart. -/
theorem pk_cells {r : Res} {rest : List Res} (h : Own B w0 W (r :: (insHd x ++ rest))) : W.cell? ⟨x.i, 2, none⟩ = some (.int .i64 x.ahead) ∧ W.cell? ⟨x.i, 4, none⟩ = some (.bool x.on) ∧ W.cell? ⟨x.i, 5, none⟩ = some (.slice (some ⟨x.b, 0, none⟩) 16 x.cap) ∧
    ∀ k, k < x.l.length → W.cell? ⟨x.b, k * 14, none⟩ = (x.l[k]?).map (·.lc.ptr) := by
  have hb := in_blk h (b := x.i) (o := x.o) (by simp [insHd])
  refine ⟨by rw [block_cell hb]; rfl, by rw [block_cell hb]; rfl, by rw [block_cell hb]; rfl, fun k hk => ?_⟩
  obtain ⟨-, h2, -⟩ := segR_at (h.all (segR x.b 241 (x.l.flatMap pmCells)) (by simp [insHd])).1
  obtain ⟨e1, e2⟩ := flat14 x.l k 0 hk (by omega)
  rw [Nat.add_zero] at e1 e2
  rw [h2 _ e2, e1, List.getElem?_eq_getElem hk]
  rfl

theorem quiet_eq {P : Program} {f : FuncId} {args : Array Value} {w : World} {n : Nat} {v : Value} (h : Calls P f args (w.drewN n) fun e w' => e = .returned v ∧ w.drewN n = w') : Calls P f args (w.drewN n) fun e w'' => e = .returned v ∧ ∃ m, w'' = w.drewN m :=
  h.mono fun _ _ ⟨he, hm⟩ => ⟨he, n, hm.symm⟩

set_option maxHeartbeats 1000000 in
theorem ins_pre (h : Own B w0 W (instR x :: ss)) {i : Nat} (hi : x.i = i) (seq : Int) (v : Value) (l : List Rq) (hb : Bat W v l) (hn : l.length ≤ 100000) :
    Calls Tryz.prog 159 #[.pointer (some ⟨i, 0, none⟩), .int .i64 seq, v] W (InsP B w0 W i (preI x.st seq l) ss (.bool (preB x.st seq))) := by
  subst hi
  have ho := own_open h
  have hod := oi_drew ho
  obtain ⟨-, -, c2w, -, c4w, c5, l1, l2⟩ := oi_cells ho
  obtain ⟨-, -, c2, -, c4, -, -, -⟩ := oi_cells hod
  cases hk : idx seq with
  | none =>
    have hs := idx_none hk
    have HE := Lib.hid (pre_off (st := x.st) hk l)
    have HA := Lib.hid (at_no x.i x.b x.cap seq W hs c5)
    have H := Lib.hid h
    clear ho hod h hk hs c2 c4 c4w c5 hb
    go_enter Tryz.func159, Tryz.ntmps159
    go_wp2_with fail
    refine HA.out.mono ?_
    rintro e w' ⟨rfl, rfl⟩
    go_wp2_with fail
    go_quiet (fail)
    go_wp2_with fail
    go_ret
    rw [HE.out.1]
    exact insP_same (H.out.upd0 ((Upd.refl _ _).drewN _)) HE.out.2
  | some k =>
    obtain ⟨hl, hp⟩ := plAt_some (oi_ok ho) hk
    obtain ⟨i1, i2⟩ := idx_lt hk
    have HA := Lib.hid (at_yes x.i x.b x.cap seq W (by omega) (by omega) c5)
    have hks : seq.toNat - 1 = k := by omega
    rw [hks] at HA
    have cp := oi_ptr hod k hl
    by_cases hon : x.on = true
    · rw [hon] at c4 c4w
      have hdl := ins_done_le (oi_ok ho)
      obtain ⟨a1, a2⟩ : 1 ≤ x.ahead ∧ x.ahead ≤ 16 := ⟨(oi_ok ho).a1, (oi_ok ho).a2⟩
      have HD := Lib.hid (done_open hod)
      have HDN := Lib.hid (fun n => done_open (x := x) (Own.upd0 ho ((Upd.refl _ _).drewN n)))
      have HW := Lib.hid h
      have HBQ := Lib.hid (show preB x.st seq = (decide (seq ≤ doneI x.st + x.ahead) && !x.l[k].sl.has) by simp only [preB, hp, Pm.pl]; simp [Ins.st, hon])
      have HIQ := Lib.hid (fun hq : preB x.st seq = true => show preI x.st seq l = x.st.upd k fun p => { p with sl := slPre l p.sl } by simp only [preI, hk]; rw [if_pos hq])
      have HNQ := Lib.hid (fun hq : preB x.st seq = false => pre_no hq l)
      have HC := Lib.hid (own_pre (oi_pick hod k hl) v l (hb.upd (M := []) (Upd.refl _ _).drew (by simp)) hn)
      have H := Lib.hid hod
      have HX := Lib.hid hon
      clear ho hod h hk c5 hp i2 hks hon hb
      unfold DoneP at HD HDN
      generalize doneI x.st = d at *
      have hsum : IntKind.i64.wrap ((d : Int) + x.ahead) = (d : Int) + x.ahead := IntWalk.i64_in _ (by omega)
      by_cases hw : seq ≤ (d : Int) + x.ahead
      · have hwb : decide (seq ≤ (d : Int) + x.ahead) = true := by simp [hw]
        rw [hwb, Bool.true_and] at HBQ
        go_enter Tryz.func159, Tryz.ntmps159
        go_wp2_with fail
        refine HA.out.mono ?_
        rintro e w' ⟨rfl, rfl⟩
        go_wp2_with fail
        go_region_held3 (fun w' => w'.cell? ⟨x.i, 4, none⟩ = some (.bool true) ∧ w'.cell? ⟨x.i, 2, none⟩ = some (.int .i64 x.ahead) ∧ w'.cell? ⟨x.b, k * 14, none⟩ = some x.l[k].lc.ptr)
          (first | (with_reducible exact ⟨c4, c2, cp⟩) | (with_reducible exact ⟨d4, d2, dp⟩))
          (first
            | (go_at_call 156; refine HD.out.mono ?_; rintro e w' ⟨rfl, rfl⟩)
            | (go_at_call 217; refine HC.out.mono ?_; rintro e w' ⟨rfl, -, h2⟩; have H2 := Lib.hid h2; obtain ⟨d2, d4, -, dp⟩ := pk_cells h2; rw [HX.out] at d4; have dp := dp k hl; rw [List.getElem?_eq_getElem hl, Option.map_some] at dp; clear h2))
        go_wp2_with fail
        go_ret
        rw [HBQ.out]
        cases hh : x.l[k].sl.has
        · rw [HIQ.out (by rw [HBQ.out, hh]; rfl)]
          refine ⟨rfl, x.sl k { x.l[k] with sl := slPre l x.l[k].sl }, rfl, st_set x k hl _ _ rfl, own_shut (oi_unpick k hl _ ?_ rfl ⟨rfl, rfl⟩ rfl)⟩
          exact H2.out
        · rw [HNQ.out (by rw [HBQ.out, hh]; rfl)]
          refine ⟨rfl, x.sl k { x.l[k] with sl := slPre l x.l[k].sl }, rfl, ?_, own_shut (oi_unpick k hl _ H2.out rfl ⟨rfl, rfl⟩ rfl)⟩
          rw [st_set x k hl _ id (by simp [Pm.pl, slPre, hh]), In.upd, List.modify_id]
      · have hwb : decide (seq ≤ (d : Int) + x.ahead) = false := by simp; omega
        rw [hwb, Bool.false_and] at HBQ
        go_enter Tryz.func159, Tryz.ntmps159
        go_wp2_with fail
        refine HA.out.mono ?_
        rintro e w' ⟨rfl, rfl⟩
        go_wp2_with fail
        go_quiet ((go_at_call 156; exact quiet_eq (HDN.out _)))
        go_wp2_with fail
        go_ret
        rw [HBQ.out, HNQ.out HBQ.out]
        exact insP_same (HW.out.upd0 ((Upd.refl _ _).drewN _)) rfl
    · have hon' : x.on = false := by simpa using hon
      rw [hon'] at c4w
      clear c4
      have HB := Lib.hid (show preB x.st seq = false by simp only [preB, hp]; simp [Ins.st, hon'])
      have HI := Lib.hid (pre_no HB.out l)
      have H := Lib.hid h
      clear ho hod h hk c5 hp i2 hks hon hb hon' c2
      go_enter Tryz.func159, Tryz.ntmps159
      go_wp2_with fail
      refine HA.out.mono ?_
      rintro e w' ⟨rfl, rfl⟩
      go_wp2_with fail
      go_quiet (fail)
      go_wp2_with fail
      go_ret
      rw [HB.out]
      exact insP_same (H.out.upd0 ((Upd.refl _ _).drewN _)) HI.out

end
end Go.Proofs.YtannckelmojkoaaGreat

/- inst: Next; fresh, cert. -/
namespace Go.Proofs.YtannckelmojkoaaGreat
open Go.RowKit Go.Heap

section
variable {B : Nat} {w0 W W' : World} {ss rs : List Res} {x : Ins}

set_option maxHeartbeats 1000000 in
theorem ins_next (h : Own B w0 W (instR x :: ss)) {i : Nat} (hi : x.i = i) : Calls Tryz.prog 154 #[.pointer (some ⟨i, 0, none⟩)] W fun e w' => e = .returned (.int .i64 (nextI x.st)) ∧ Upd [] W w' := by
  subst hi
  have ho := own_open h
  obtain ⟨-, -, -, -, -, c5, l1, l2⟩ := oi_cells ho
  have HN := Lib.hid (oi_ok ho).n
  have HL := Lib.hid (fun k h1 h2 h3 => lastHas_of (x.l.map Pm.pl) k h1 h2 h3)
  have H := Lib.hid ho
  clear ho h
  go_enter Tryz.func154, Tryz.ntmps154
  go_wp2_with fail
  go_loopw [3] (fun n wr => ∃ k : Nat, k ≤ 16 ∧ n = .int .i64 k ∧ Hid (∀ j (hj : j < x.l.length), k ≤ j → x.l[j].sl.has = false) ∧ Hid (Upd [] W wr)) (fun n _ => (intOf n).toNat)
  case atStart => exact ⟨16, by omega, rfl, Lib.hid (by intro j hj hk; rw [HN.out] at hj; omega), Lib.hid (Upd.refl _ _)⟩
  case round =>
    clear c5
    obtain ⟨k, hk, rfl, HA, HU⟩ := hrel
    have hor := H.out.upd0 HU.out
    obtain ⟨-, -, -, -, -, c5, -, -⟩ := oi_cells hor
    by_cases h0 : k = 0
    · subst h0
      clear hor
      go_wp2_with fail
      go_ret
      refine ⟨ret_int ?_, HU.out⟩
      rw [nextI, show lastHas x.st.l = 0 from HL.out 0 (by simp) (fun j hj hk => by simpa [Pm.pl] using HA.out j (by simpa using hj) hk) (fun j _ e => by omega)]
      rfl
    · have hk0 : (0 : Int) < (k : Int) := by omega
      have hk1 : (k : Int) - 1 = ((k - 1 : Nat) : Int) := by omega
      have hl : k - 1 < x.l.length := by rw [HN.out]; omega
      have hsub : IntKind.i64.wrap ((k : Int) - 1) = ((k - 1 : Nat) : Int) := by rw [hk1]; exact IntWalk.i64_in _ (by omega)
      have cp := oi_ptr hor (k - 1) hl
      have HC := Lib.hid (own_chosen (oi_pick hor (k - 1) hl))
      clear hor hk1 h0
      go_wp2_with fail
      refine HC.out.mono ?_
      rintro e w' ⟨u, rfl, hu, -, -⟩
      have HU2 := Lib.hid (HU.out.trans hu)
      clear hu cp
      cases hh : x.l[k - 1].sl.has
      · have HH := Lib.hid hh
        clear hh
        go_wp2_with fail
        go_roundw
        case rel =>
          refine ⟨k - 1, by omega, by go_num, Lib.hid (fun j hj hkj => ?_), HU2⟩
          by_cases e : j = k - 1
          · subst e; exact HH.out
          · exact HA.out j hj (by omega)
        case measure => simp [intOf]; omega
      · have HH := Lib.hid hh
        clear hh
        go_wp2_with fail
        go_ret
        refine ⟨ret_int ?_, HU2.out⟩
        rw [nextI, show lastHas x.st.l = k from HL.out k (by simp [HN.out]; omega) (fun j hj hk => by simpa [Pm.pl] using HA.out j (by simpa using hj) hk) (fun j hj e => by subst e; simpa [Pm.pl] using HH.out)]
        simp

end
end Go.Proofs.YtannckelmojkoaaGreat

/- A law's state: one slot, some batches that stay. -/
namespace Go.Proofs.YtannckelmojkoaaGreat
open Go.RowKit Go.Heap

def rq (c t : Int) : Rq := ⟨c, t, 0, 0, 0, 0⟩

abbrev rqObj (c t : Int) : Obj := .cells #[.int .i64 c, .int .i64 t, .int .i64 0, .int .i64 0, .int .i64 0, .int .i64 0] 38

theorem bat_one {w : World} {g : Nat} {c t : Int} (h : w.heap[g]? = some (rqObj c t)) : Bat w (.slice (some ⟨g, 0, none⟩) 1 1) [rq c t] := by
  refine ⟨some ⟨g, 0, none⟩, 1, rfl, Nat.le_refl _, by simp [maxLen], rfl, (fun e => by cases e), fun _ => ⟨g, 0, rfl, block_lt h, fun j hj => ?_⟩⟩
  rw [Nat.zero_add, block_cell h]
  match j, hj with
  | 0, _ => rfl
  | 1, _ => rfl
  | 2, _ => rfl
  | 3, _ => rfl
  | 4, _ => rfl
  | 5, _ => rfl

theorem vts_three {w : World} {g : Nat} {a b c d e f : Int} (h : w.heap[g]? = some (.cells #[.int .i64 a, .int .i64 b, .int .i64 c, .int .i64 d, .int .i64 e, .int .i64 f] 177 (0, 0))) : Vts w (.slice (some ⟨g, 0, none⟩) 3 3) [(a, b), (c, d), (e, f)] := by
  refine ⟨some ⟨g, 0, none⟩, 3, rfl, Nat.le_refl _, by simp [maxLen], rfl, (fun e => by cases e), fun _ => ⟨g, 0, rfl, block_lt h, fun j hj => ?_⟩⟩
  rw [Nat.zero_add, block_cell h]
  match j, hj with
  | 0, _ => rfl
  | 1, _ => rfl
  | 2, _ => rfl
  | 3, _ => rfl
  | 4, _ => rfl
  | 5, _ => rfl

theorem vts_form {w : World} {v : Value} {l : Vs} (h : Vts w v l) : ∃ ao cap, v = .slice ao l.length cap := let ⟨ao, cap, hv, _⟩ := h; ⟨ao, cap, hv⟩

abbrev sl1 (g : Nat) : Value := .slice (some ⟨g, 0, none⟩) 1 1

/-- One slot at L, in state st; the batches bs lie where the slot does not write; below B all is as in w0. -/
structure St (B : Nat) (w0 W : World) (L : Loc) (st : Sl) (bs : List (Value × List Rq)) : Prop where
  below : Below B w0 W
  size : B ≤ W.heap.size
  M : ∀ k ∈ L.M, B ≤ k
  on : On W L st []
  bat : ∀ p ∈ bs, Bat W p.1 p.2 ∧ ∀ b ∈ blkOf p.1, b ∉ L.M ∧ b < W.heap.size

section
variable {B : Nat} {w0 W W' : World} {L : Loc} {st : Sl} {bs : List (Value × List Rq)}

theorem St.upd0 (h : St B w0 W L st bs) (hu : Upd [] W W') : St B w0 W' L st bs where
  below := h.below.trans (hu.below.mono h.size)
  size := Nat.le_trans h.size hu.size
  M := h.M
  on := h.on.upd0 hu
  bat := fun p hp => ⟨(h.bat p hp).1.upd hu (by simp), fun b hb => ⟨((h.bat p hp).2 b hb).1, Nat.lt_of_lt_of_le ((h.bat p hp).2 b hb).2 hu.size⟩⟩

theorem St.alloc (h : St B w0 W L st bs) (o : Obj) : St B w0 (W.alloc o) L st bs := h.upd0 ((Upd.refl _ _).alloc o)
theorem St.drew (h : St B w0 W L st bs) : St B w0 W.drew L st bs := h.upd0 (Upd.refl _ _).drew

theorem St.batch (h : St B w0 W L st bs) (c t : Int) : St B w0 (W.alloc (rqObj c t)) L st ((sl1 W.heap.size, [rq c t]) :: bs) where
  below := (h.alloc _).below
  size := (h.alloc (rqObj c t)).size
  M := h.M
  on := (h.alloc _).on
  bat := by
    intro p hp
    rcases List.mem_cons.1 hp with rfl | hp
    · refine ⟨bat_one (heap_alloc_new W _), fun b hb => ?_⟩
      simp [blkOf] at hb
      subst hb
      exact ⟨fun hn => by have := h.on.lt _ hn; omega, by simp⟩
    · exact (h.alloc _).bat p hp

theorem St.nil (h : St B w0 W L st bs) : St B w0 W L st ((.slice none 0 0, []) :: bs) :=
  ⟨h.below, h.size, h.M, h.on, fun p hp => by
    rcases List.mem_cons.1 hp with rfl | hp
    · exact ⟨Reads.nil _ _, by simp [blkOf]⟩
    · exact h.bat p hp⟩

theorem st_step {st' : Sl} (h : St B w0 W L st bs) (hu : Upd L.M W W') (hon : On W' L st' []) : St B w0 W' L st' bs where
  below := h.below.trans (hu.belowB h.size h.M)
  size := Nat.le_trans h.size hu.size
  M := h.M
  on := hon
  bat := fun p hp => ⟨(h.bat p hp).1.upd hu (fun b hb => ((h.bat p hp).2 b hb).1), fun b hb => ⟨((h.bat p hp).2 b hb).1, Nat.lt_of_lt_of_le ((h.bat p hp).2 b hb).2 hu.size⟩⟩

theorem st_new (f : Nat) (h1 : 1 ≤ f) (h2 : f ≤ 4) (w0 W : World) (B : Nat) (hb : Below B w0 W) (hB : B ≤ W.heap.size) :
    Calls Tryz.prog 151 #[.int .i64 f] W fun e w' => ∃ L : Loc, e = .returned (.tuple #[L.ptr, .int .i64 0]) ∧ L.f = f ∧ St B w0 w' L (emptySl f) [] := by
  refine (on_new f h1 h2 W).mono ?_
  rintro e w' ⟨L, he, hf, hu, hM, hon⟩
  exact ⟨L, he, hf, hb.trans (hu.below.mono hB), Nat.le_trans hB hu.size, fun k hk => Nat.le_trans hB (hM k hk), hon [] (by simp), by simp⟩

theorem st_pre (h : St B w0 W L st bs) (v : Value) (rs : List Rq) (hb : (v, rs) ∈ bs) (hn : rs.length ≤ 100000) :
    Calls Tryz.prog 217 #[L.ptr, v] W fun e w' => e = .returned (.bool (!st.has)) ∧ St B w0 w' L (if st.has then st else { st with has := true, batch := rs }) bs := by
  refine (on_pre h.on v rs (h.bat _ hb).1 hn).mono ?_
  rintro e w' ⟨he, hu, hon⟩
  exact ⟨he, st_step h hu hon⟩

theorem st_vote (h : St B w0 W L st bs) (kind node sl : Int) (v : Value) (rs : List Rq) (hb : (v, rs) ∈ bs) (hn : rs.length ≤ 100000) :
    Calls Tryz.prog 264 #[L.ptr, .int .i64 kind, .int .i64 node, .int .i64 sl, v] W fun e w' => e = .returned (.bool (canVote st kind node)) ∧ St B w0 w' L (voteS st kind node sl rs) bs := by
  refine (on_vote h.on kind node sl v rs (h.bat _ hb).1 hn).mono ?_
  rintro e w' ⟨he, hu, hon⟩
  exact ⟨he, st_step h hu hon⟩

theorem st_chosen (h : St B w0 W L st bs) :
    Calls Tryz.prog 215 #[L.ptr] W fun e w' => ∃ u, e = .returned (.tuple #[u, .bool st.has]) ∧ St B w0 w' L st bs ∧ Bat w' u (chosenS st) := by
  refine (on_chosen h.on).mono ?_
  rintro e w' ⟨u, he, hu, hon, hb, hn⟩
  exact ⟨u, he, h.upd0 hu, hb⟩

theorem st_prepared (h : St B w0 W L st bs) :
    Calls Tryz.prog 280 #[L.ptr] W fun e w' => ∃ u, e = .returned (.tuple #[u, .bool (preparedS L.f st).isSome]) ∧ St B w0 w' L st bs ∧ Vts w' u ((preparedS L.f st).getD []) := by
  refine (on_prepared h.on).mono ?_
  rintro e w' ⟨u, he, hu, hon, hb, hn⟩
  exact ⟨u, he, h.upd0 hu, hb⟩

theorem st_committed (h : St B w0 W L st bs) :
    Calls Tryz.prog 282 #[L.ptr] W fun e w' => ∃ v u, e = .returned (.tuple #[v, u, .bool (committedS L.f st).isSome]) ∧ St B w0 w' L st bs ∧ Bat w' v (batchOf (committedS L.f st)) ∧ Vts w' u (votesOf (committedS L.f st)) := by
  refine (on_committed h.on).mono ?_
  rintro e w' ⟨v, u, he, hu, hon, q1, q2, _, _⟩
  exact ⟨v, u, he, h.upd0 hu, q1, q2⟩

theorem st_reset (h : St B w0 W L st bs) :
    Calls Tryz.prog 214 #[L.ptr] W fun e w' => ∃ bp bc, e = .returned (.tuple #[]) ∧ St B w0 w' ⟨L.s, bp, bc, 3 * L.f + 1, 3 * L.f + 1, L.f⟩ (emptySl L.f) bs := by
  refine (on_reset h.on).mono ?_
  rintro e w' ⟨bp, bc, he, hu, g1, g2, hon⟩
  have hs : L.s ∈ L.M := by simp [Loc.M]
  refine ⟨bp, bc, he, h.below.trans (hu.belowB h.size (by intro k hk; simp at hk; subst hk; exact h.M _ hs)), Nat.le_trans h.size hu.size, ?_, hon, fun p hp => ⟨(h.bat p hp).1.upd hu (fun b hb hn => ?_), fun b hb => ⟨fun hn => ?_, Nat.lt_of_lt_of_le ((h.bat p hp).2 b hb).2 hu.size⟩⟩⟩
  · intro k hk
    have := h.size
    have hs' := h.M _ hs
    simp [Loc.M] at hk
    omega
  · simp at hn; subst hn; exact ((h.bat p hp).2 _ hb).1 hs
  · simp [Loc.M] at hn
    obtain ⟨hb', hlt⟩ := (h.bat p hp).2 b hb
    rcases hn with rfl | rfl | rfl
    · exact hb' hs
    · omega
    · omega

end
end Go.Proofs.YtannckelmojkoaaGreat

/- wp_text, where a slot is written that an earlier 'move' has looked at ('x = append(x, ..)'). -/
namespace Go.Mix
open Go

/-- It only computes, whatever the frame holds. -/
def calm (o : Oper) : Bool :=
  match o.op with
  | .move _ | .assign _ | .extract _ _ | .pick _ _ _ | .field _ _ _ | .indexAddr _ _ _ | .index _ _ _ | .slice _ _ _ _ _ | .makeInterface _ _ => true
  | _ => false

/-- No operation writes a slot that this or an earlier one looks at, but where the earlier one only computes whatever it sees. -/
def stillB2 (ops : Array Oper) : Bool :=
  (List.range ops.size).all fun i => (List.range ops.size).all fun j => decide (j < i) || match ops[i]?, ops[j]? with
    | some oi, some oj => calm oi || match oj.dst with
      | some d => !(oi.looksAt ops).contains d
      | none => true
    | _, _ => true

section
variable {P : Program} {ops : Array Oper} {Q : Exit → Act → World → Prop}

theorem calm_pure {a : Act} {o : Oper} (h : calm o = true) : pureOp P a o = true := by
  obtain ⟨dst, op, type, pos, after, guard⟩ := o
  unfold calm at h
  unfold pureOp
  dsimp only at h ⊢
  split at h <;> first | rfl | cases h

theorem stillB2_spec (h : stillB2 ops = true) {i j : Nat} {oi oj : Oper} (hc : calm oi = false) (hi : ops[i]? = some oi) (hj : ops[j]? = some oj) (hij : i ≤ j) : ∀ t ∈ oi.looksAt ops, oj.dst ≠ some t := by
  intro t ht e
  simp only [stillB2, List.all_eq_true, List.mem_range] at h
  have := h i (Array.getElem?_eq_some_iff.1 hi).1 j (Array.getElem?_eq_some_iff.1 hj).1
  rw [hi, hj] at this
  simp only [e, hc, Bool.false_or, Bool.or_eq_true, decide_eq_true_eq, Bool.not_eq_true', List.contains_eq_mem, decide_eq_false_iff_not] at this
  rcases this with h | h
  · omega
  · exact h ht

theorem text_mix2 (hst : stillB2 ops = true) : ∀ (l : List Oper) (k : Nat) (a : Act) (w : World), ops.toList.drop k = l → wpList P ops (Fin P ops Q) l a w → mix P ops (fun _ => True) Q (autoC ops) (List.range' k l.length) a w := by
  intro l
  induction l with
  | nil => intro k a w _ h; exact h.2
  | cons o l ih =>
    intro k a w hl h
    have hk : ops[k]? = some o := by
      have : (ops.toList.drop k)[0]? = some o := by rw [hl]; rfl
      rw [List.getElem?_drop, Array.getElem?_toList] at this
      simpa using this
    have hl' : ops.toList.drop (k + 1) = l := by
      rw [← List.drop_drop, hl]; rfl
    have hlater : ∀ o' ∈ o :: l, ∃ j, k ≤ j ∧ ops[j]? = some o' := by
      intro o' ho'
      rw [← hl] at ho'
      obtain ⟨j, hj⟩ := List.getElem?_of_mem ho'
      rw [List.getElem?_drop, Array.getElem?_toList] at hj
      exact ⟨k + j, by omega, hj⟩
    have hout := list_out _ _ _ h
    have h := wpList_cons_fin h
    rw [List.length_cons, List.range'_succ]
    refine ⟨o, hk, ?_⟩
    have hc : autoC ops k = clsOf o := by simp [autoC, hk]
    rw [hc]
    split at h
    · rename_i hw
      by_cases hcl : clsOf o ≤ 1
      · unfold stepMix
        rw [if_pos hcl]
        -- what it runs to
        have hrun : ∃ v, (∀ w', (if clsOf o = 0 then True else w' = w) → (execOp a.eval o).run P w' = .ok (.value v) w') ∧ wpList P ops (Fin P ops Q) l (a.put o.dst v) w := by
          unfold Oper.wp at h
          cases hr : (execOp a.eval o).run P w with
          | halt x w' => rw [hr] at h; cases x <;> simp only [Oper.upon] at h; exact h.elim
          | ok n w' =>
            by_cases hc0 : clsOf o = 0
            · have hpure : pureOp P a o = true := by
               by_cases hcm : calm o = true
               · exact calm_pure hcm
               obtain ⟨a', w'', hv, _, hsame⟩ := hout
               have hlook : ∀ t ∈ o.looksAt ops, a'.tmps[t]? = a.tmps[t]? := fun t ht => hsame t fun o' ho' => by
                 obtain ⟨j, hj, hoj⟩ := hlater o' ho'
                 exact stillB2_spec hst (by simpa using hcm) hk hoj hj t ht
               refine pureOp_of (eval_of hlook) ?_
               simp only [okVals, List.all_eq_true, List.mem_range] at hv
               have h1 := hv k (Array.getElem?_eq_some_iff.1 hk).1
               rw [hk] at h1
               simp only [hc0, bne_self_eq_false, Bool.false_or, Bool.or_eq_true, Bool.not_eq_true', wanted_of hlook, hw] at h1
               rcases h1 with h1 | h1
               · cases h1
               · exact h1
              obtain ⟨rfl, v, rfl, hall⟩ := pure_ind hpure _ _ _ hr
              rw [hr] at h
              exact ⟨v, fun w2 _ => hall w2, h⟩
            · have hload : ∃ t x, o.op = .load t x := by
                have h1 : clsOf o = 1 := by omega
                unfold clsOf at h1
                split at h1 <;> first | (rename_i heq; exact ⟨_, _, heq⟩) | omega
              obtain ⟨t, x, hop⟩ := hload
              obtain ⟨rfl, v, rfl⟩ := load_value hop hr
              rw [hr] at h
              refine ⟨v, fun w2 h2 => ?_, h⟩
              rw [if_neg hc0] at h2
              subst h2
              exact hr
        obtain ⟨v, h1, h2⟩ := hrun
        exact ⟨v, .inl ⟨hw, h1⟩, ih (k + 1) _ _ hl' h2⟩
      · unfold stepMix
        rw [if_neg hcl]
        unfold Loud
        rw [if_pos hw]
        exact Oper.wp_post (Q := NoQ) (fun a' w' h' => ⟨trivial, ih (k + 1) _ _ hl' h'⟩) h
    · rename_i hw
      have hw' : Region.wanted o (yielded ops a.tmps) = false := by simpa using hw
      by_cases hcl : clsOf o ≤ 1
      · unfold stepMix
        rw [if_pos hcl]
        exact ⟨undef, .inr ⟨hw', rfl⟩, ih (k + 1) _ _ hl' h⟩
      · unfold stepMix
        rw [if_neg hcl]
        unfold Loud
        rw [if_neg (by simp [hw'])]
        exact ⟨trivial, ih (k + 1) _ _ hl' h⟩

theorem wp_region_text2 {id : Nat} {a : Act} {w : World} (hm : P.follows .mixedOrders = true) (hok : (okRegion ops (autoC ops) && stillB2 ops) = true)
    (h : wpList P ops (Fin P ops Q) ops.toList a w.drew) : (Code.region id ops true).wp P Q a w := by
  simp only [Bool.and_eq_true] at hok
  refine wp_region_mix (fun _ => True) (autoC ops) hm hok.1 trivial ?_
  have := text_mix2 hok.2 ops.toList 0 a w.drew rfl h
  rw [Array.length_toList, ← List.range_eq_range'] at this
  exact this

/-- The rule, the operations written out. -/
theorem wp_text2 {id : Nat} {l : List Oper} {a : Act} {w : World} (hm : P.follows .mixedOrders = true) (hok : (okRegion l.toArray (autoC l.toArray) && stillB2 l.toArray) = true)
    (h : wpList P l.toArray (Fin P l.toArray Q) l a w.drew) : (Code.region id l.toArray true).wp P Q a w := wp_region_text2 hm hok h

end
end Go.Mix

/- inst: fresh, cert. -/
namespace Go.Proofs.YtannckelmojkoaaGreat
open Go.RowKit Go.Heap

abbrev ctO (view inst seq : Int) (vb vv : Value) : Obj := .cells #[.int .i64 view, .int .i64 inst, .int .i64 seq, vb, vv] 42 (0, 0)

theorem ct_cells {w : World} {b : Nat} {view inst seq : Int} {vb vv : Value} (h : w.heap[b]? = some (ctO view inst seq vb vv)) : w.cell? ⟨b, 0, none⟩ = some (.int .i64 view) ∧ w.cell? ⟨b, 1, none⟩ = some (.int .i64 inst) ∧ w.cell? ⟨b, 2, none⟩ = some (.int .i64 seq) ∧
    w.cell? ⟨b, 3, none⟩ = some vb ∧ w.cell? ⟨b, 4, none⟩ = some vv ∧ b < w.heap.size ∧ ∀ o, w.frozen? ⟨b, o, none⟩ = false :=
  ⟨by rw [block_cell h]; rfl, by rw [block_cell h]; rfl, by rw [block_cell h]; rfl, by rw [block_cell h]; rfl, by rw [block_cell h]; rfl, block_lt h, block_frozen h⟩

/-- What fresh gives: the same in new memory. -/
def FreshP (w : World) (c : Ct) (e : Ending) (w' : World) : Prop :=
  ∃ c' : Ct, e = .returned (ctAgg c') ∧ c'.cp = c.cp ∧ Upd [] w w' ∧ Bat w' c'.vb c'.rs ∧ Vts w' c'.vv c'.vs ∧ (∀ k ∈ blkOf c'.vb, w.heap.size ≤ k) ∧ ∀ k ∈ blkOf c'.vv, w.heap.size ≤ k

theorem vsCells_one (l : Vs) : ∀ u ∈ vsCells l, u.oneCell' = true := by
  intro u hu
  simp only [vsCells, List.mem_flatMap] at hu
  obtain ⟨r, _, h⟩ := hu
  simp only [List.mem_cons, List.not_mem_nil, or_false] at h
  rcases h with rfl | rfl <;> rfl

theorem row_shape {w : World} {B E sz n : Nat} {v : Value} {xs : List Value} (h : w.ownsRow B E sz v n xs) : ∃ ao cap, v = .slice ao n cap := by
  rcases h.2 with ⟨rfl, rfl⟩ | ⟨g, cap, cur, rfl, _⟩
  · exact ⟨none, 0, rfl⟩
  · exact ⟨_, cap, rfl⟩
theorem owns_reads {w : World} {B E sz n : Nat} {v : Value} {xs : List Value} (h : w.ownsRow B E sz v n xs) : Reads w v sz n xs := by
  rcases h.2 with ⟨rfl, rfl⟩ | ⟨g, cap, cur, rfl, _⟩
  · have : xs = [] := List.eq_nil_of_length_eq_zero (by simpa using h.1)
    subst this
    exact Reads.nil _ _
  · exact Reads.of_own h
theorem owns_new {w : World} {B E sz n : Nat} {v : Value} {xs : List Value} (h : w.ownsRow B E sz v n xs) : ∀ k ∈ blkOf v, B ≤ k ∧ k < w.heap.size := by
  intro k hk
  rcases h.2 with ⟨rfl, rfl⟩ | ⟨g, cap, cur, rfl, hb, hg, _⟩
  · simp [blkOf] at hk
  · simp [blkOf] at hk; subst hk; exact ⟨hb, block_lt hg⟩

set_option maxHeartbeats 1000000 in
theorem fresh_ct (c : Ct) (w : World) (hb : Bat w c.vb c.rs) (hbn : c.rs.length ≤ 100000) (hv : Vts w c.vv c.vs) (hvn : c.vs.length ≤ 100000) :
    Calls Tryz.prog 189 #[ctAgg c] w (FreshP w c) := by
  obtain ⟨i0, hi, hz0, hz1, hz2⟩ := info_parts Tryz.infoReq
  obtain ⟨j0, hj, hy0, hy1, hy2⟩ := info_parts Tryz.infoVote
  obtain ⟨view, inst, seq, vb, vv, rs, vs⟩ := c
  simp only at hb hbn hv hvn
  obtain ⟨ao, cap, rfl⟩ := bat_form hb
  obtain ⟨co, cav, rfl⟩ := vts_form hv
  have h1 := (((((Own.start (Below.refl w.heap.size w) (Nat.le_refl _)).red hb (by simp [Ms])).red hv (by simp [Ms, redR, imm])).box (ctO view inst seq (.slice ao rs.length cap) (.slice co vs.length cav))).box (ctO 0 0 0 (.slice none 0 0) (.slice none 0 0)))
  simp only [hs_alloc] at h1
  have H1 := Lib.hid h1
  clear hb hv h1
  go_enter Tryz.func189, Tryz.ntmps189
  go_upto_region 1 with fail
  generalize (w.alloc (ctO view inst seq (.slice ao rs.length cap) (.slice co vs.length cav))).alloc (ctO 0 0 0 (.slice none 0 0) (.slice none 0 0)) = w1 at *
  obtain ⟨f0, f1, f2, f3, f4, fl, fz⟩ := ct_cells H1.out.drop.blk_out
  clear fz
  go_wp2_with (at_builtin; refine wpList_fresh rfl (.tmp 4) 39 rfl 38 i0 (.agg #[.int .i64 0, .int .i64 0, .int .i64 0, .int .i64 0, .int .i64 0, .int .i64 0]) 6 48 Tryz.underlying39 hi hz0 hz1 hz2 rfl (by decide) _ _ _ rfl (redR_out H1.out.drop.drop.drop.head) (rqsCells_one rs) (by omega) ?_)
  intro v2 w2 hown2 hu2
  obtain ⟨ao2, cap2, rfl⟩ := row_shape hown2
  have H2 := Lib.hid ((H1.out.row1 hu2 hown2).swap.rot)
  clear f0 f1 f2 f3 f4 fl hown2 hu2 H1
  obtain ⟨f0, f1, f2, f3, f4, fl, fz⟩ := ct_cells H2.out.blk_out
  have fz3 := fz 3
  clear fz
  go_upto_region 2 with fail
  have H3 := Lib.hid (H2.out.store 3 (.slice ao2 rs.length cap2))
  generalize w2.setCell ⟨w.heap.size, 3, none⟩ (.slice ao2 rs.length cap2) = w3 at *
  clear f0 f1 f2 f3 f4 fl fz3 H2
  obtain ⟨f0, f1, f2, f3, f4, fl, fz⟩ := ct_cells H3.out.blk_out
  clear fz
  go_wp2_with (at_builtin; refine wpList_fresh rfl (.tmp 8) 40 rfl 177 j0 (.agg #[.int .i64 0, .int .i64 0]) 2 16 Tryz.underlying40 hj hy0 hy1 hy2 rfl (by decide) _ _ _ rfl (redR_out H3.out.drop.drop.drop.head) (vsCells_one vs) (by omega) ?_)
  intro v4 w4 hown4 hu4
  obtain ⟨ao4, cap4, rfl⟩ := row_shape hown4
  have H4 := Lib.hid ((H3.out.row1 hu4 hown4).swap)
  clear f0 f1 f2 f3 f4 fl hown4 hu4 H3
  obtain ⟨f0, f1, f2, f3, f4, fl, fz⟩ := ct_cells H4.out.blk_out
  have fz4 := fz 4
  clear fz
  go_upto_region 3 with fail
  have H5 := Lib.hid (H4.out.store 4 (.slice ao4 vs.length cap4))
  generalize w4.setCell ⟨w.heap.size, 4, none⟩ (.slice ao4 vs.length cap4) = w5 at *
  clear f0 f1 f2 f3 f4 fl fz4 H4
  obtain ⟨f0, f1, f2, f3, f4, fl, fz⟩ := ct_cells H5.out.blk_out
  obtain ⟨g0, g1, g2, g3, g4, gl, gz⟩ := ct_cells H5.out.drop.drop.blk_out
  have gz0 := gz 0
  have gz1 := gz 1
  have gz2 := gz 2
  have gz3 := gz 3
  have gz4 := gz 4
  clear fz gz
  go_wp2_with fail
  have H6 := Lib.hid ((((((H5.out.rot.store 0 (.int .i64 view)).store 1 (.int .i64 inst)).store 2 (.int .i64 seq)).store 3 (.slice ao2 rs.length cap2)).store 4 (.slice ao4 vs.length cap4)))
  generalize ((((w5.setCell ⟨w.heap.size + 1, 0, none⟩ (.int .i64 view)).setCell ⟨w.heap.size + 1, 1, none⟩ (.int .i64 inst)).setCell ⟨w.heap.size + 1, 2, none⟩ (.int .i64 seq)).setCell ⟨w.heap.size + 1, 3, none⟩ (.slice ao2 rs.length cap2)).setCell ⟨w.heap.size + 1, 4, none⟩ (.slice ao4 vs.length cap4) = w6 at *
  clear f0 f1 f2 f3 f4 fl g0 g1 g2 g3 g4 gl gz0 gz1 gz2 gz3 gz4 H5
  obtain ⟨f0, f1, f2, f3, f4, fl, fz⟩ := ct_cells H6.out.blk_out
  have r1 := ownR_owns H6.out.drop.drop.head
  have r2 := ownR_owns H6.out.drop.drop.drop.head
  refine bodyPost_ret (v := ctAgg ⟨view, inst, seq, .slice ao2 rs.length cap2, .slice ao4 vs.length cap4, rs, vs⟩) (by simp [results, Tryz.results189, go_sem, f0, f1, f2, f3, f4]) rfl ⟨⟨view, inst, seq, .slice ao2 rs.length cap2, .slice ao4 vs.length cap4, rs, vs⟩, rfl, rfl, Upd.of_below H6.out.below, owns_reads r2, owns_reads r1, ?_, ?_⟩
  · exact (H6.out.drop.drop.drop.all _ List.mem_cons_self).2
  · exact (H6.out.drop.drop.all _ List.mem_cons_self).2

set_option maxHeartbeats 1000000 in
set_option maxRecDepth 100000 in
theorem cert_any (i : Nat) (f : Nat) (num ahead view : Int) (on : Bool) (v : Value) (seq : Int) (ao : Option Addr) (n cap : Nat) (co : Option Addr) (m cav : Nat) (w : World) (h : w.heap[i]? = some (insO f num ahead view on v)) :
    Calls Tryz.prog 281 #[.pointer (some ⟨i, 0, none⟩), .int .i64 seq, .slice ao n cap, .slice co m cav] w fun e w' => e = .returned (.agg #[.int .i64 view, .int .i64 num, .int .i64 seq, .slice ao n cap, .slice co m cav]) ∧ Upd [] w w' := by
  have hl := block_lt h
  have h1 : w.cell? ⟨i, 1, none⟩ = some (.int .i64 num) := by rw [block_cell h]; rfl
  have h3 : w.cell? ⟨i, 3, none⟩ = some (.int .i64 view) := by rw [block_cell h]; rfl
  clear h
  go_enter Tryz.func281, Tryz.ntmps281
  go_wp2_with fail
  refine Mix.wp_text2 (by kernel_rfl) (by kernel_rfl) ?_
  go_wp2_with fail
  refine ⟨by rfl, ?_⟩
  go_wp2_with fail
  exact bodyPost_ret (v := .agg #[.int .i64 view, .int .i64 num, .int .i64 seq, .slice ao n cap, .slice co m cav]) (by simp [results, Tryz.results281, go_sem]) rfl ⟨rfl, ((Upd.refl _ _).alloc _).drew⟩

end Go.Proofs.YtannckelmojkoaaGreat

/- Ledgers of the program: entries, service, replies. -/
namespace Go.Proofs.YtannckelmojkoaaGreat
open Go.RowKit Go.Heap

structure En where
  rq : Rq
  res : Int
deriving DecidableEq
def enCells (e : En) : List Value := [.int .i64 e.rq.client, .int .i64 e.rq.time, .int .i64 e.rq.kind, .int .i64 e.rq.key, .int .i64 e.rq.val, .int .i64 e.rq.sl, .int .i64 e.res]
abbrev enAgg (e : En) : Value := .agg #[.int .i64 e.rq.client, .int .i64 e.rq.time, .int .i64 e.rq.kind, .int .i64 e.rq.key, .int .i64 e.rq.val, .int .i64 e.rq.sl, .int .i64 e.res]
abbrev ensCells (l : List En) : List Value := l.flatMap enCells
theorem ens_len (l : List En) : (ensCells l).length = l.length * 7 := flat_length (cells := enCells) (sz := 7) (fun _ => rfl) l
theorem ens_one (l : List En) : ∀ u ∈ ensCells l, u.oneCell' = true := by
  intro u hu
  simp only [ensCells, List.mem_flatMap] at hu
  obtain ⟨r, _, h⟩ := hu
  simp only [enCells, List.mem_cons, List.not_mem_nil, or_false] at h
  rcases h with rfl | rfl | rfl | rfl | rfl | rfl | rfl <;> rfl
def scCells (c : Bool × Int) : List Value := [.bool c.1, .int .i64 c.2]
abbrev stCells (l : List (Bool × Int)) : List Value := l.flatMap scCells
theorem st_len (l : List (Bool × Int)) : (stCells l).length = l.length * 2 := flat_length (cells := scCells) (sz := 2) (fun _ => rfl) l
theorem st_one (l : List (Bool × Int)) : ∀ u ∈ stCells l, u.oneCell' = true := by
  intro u hu
  simp only [stCells, List.mem_flatMap] at hu
  obtain ⟨r, _, h⟩ := hu
  simp only [scCells, List.mem_cons, List.not_mem_nil, or_false] at h
  rcases h with rfl | rfl <;> rfl
theorem rp_len (l : List (Int × Int)) : (l.flatMap rpCells).length = l.length * 2 := flat_length (cells := rpCells) (sz := 2) (fun _ => rfl) l
theorem rp_one (l : List (Int × Int)) : ∀ u ∈ l.flatMap rpCells, u.oneCell' = true := by
  intro u hu
  simp only [List.mem_flatMap] at hu
  obtain ⟨r, _, h⟩ := hu
  simp only [rpCells, List.mem_cons, List.not_mem_nil, or_false] at h
  rcases h with rfl | rfl <;> rfl
abbrev st0 : List (Bool × Int) := List.replicate 64 (false, 0)
theorem Tryz.zst : Tryz.zeroCells192.toList = stCells st0 := by kernel_rfl

structure Lg where
  p : Nat
  s : Nat
  c : Nat
  g : Nat
  cap : Nat
  v : Value
  clients : Int
  es : List En
  st : List (Bool × Int)
  rp : List (Int × Int)
abbrev lgO (clients : Int) (v : Value) (s c : Nat) : Obj := .cells #[.int .i64 clients, v, .pointer (some ⟨s, 0, none⟩), .pointer (some ⟨c, 0, none⟩)] 184 (0, 0)
abbrev chO (g n cap : Nat) : Obj := .cells #[.slice (some ⟨g, 0, none⟩) n cap] 289 (0, 0)
abbrev enR (v : Value) (es : List En) : Res := ownR 106 7 v es.length (ensCells es)
abbrev stR (s : Nat) (st : List (Bool × Int)) : Res := segR s 192 (stCells st)
abbrev rpR (g : Nat) (l : List (Int × Int)) : Res := segR g 286 (l.flatMap rpCells)
abbrev lgL (x : Lg) : List Res := [blk x.p (lgO x.clients x.v x.s x.c), enR x.v x.es, stR x.s x.st, blk x.c (chO x.g x.rp.length x.cap), rpR x.g x.rp]
structure LgOk (x : Lg) : Prop where
  st : x.st.length = 64
  rp1 : 1 ≤ x.rp.length
  rp4 : x.rp.length ≤ 4
  cap : x.rp.length ≤ x.cap ∧ x.cap ≤ maxLen
  es : x.es.length ≤ 100000
/-- What a ledger says. -/
structure Lp where
  clients : Int
  es : List En
  st : List (Bool × Int)
  rp : List (Int × Int)
def Lg.lp (x : Lg) : Lp := ⟨x.clients, x.es, x.st, x.rp⟩
def newL (n : Nat) : Lp := ⟨n, [], st0, List.replicate n (0, 0)⟩

section
variable {B : Nat} {w0 W W' : World} {ss : List Res} {x : Lg}

theorem Tryz.infoEn : (Tryz.prog.info? 106).map (fun i => (i.zero, i.size, i.bytes)) = some (some (.agg #[.int .i64 0, .int .i64 0, .int .i64 0, .int .i64 0, .int .i64 0, .int .i64 0, .int .i64 0]), 7, 56) := by kernel_rfl

theorem lg_cells (h : Own B w0 W (lgL x ++ ss)) : W.cell? ⟨x.p, 0, none⟩ = some (.int .i64 x.clients) ∧ W.cell? ⟨x.p, 1, none⟩ = some x.v ∧ W.cell? ⟨x.p, 2, none⟩ = some (.pointer (some ⟨x.s, 0, none⟩)) ∧ W.cell? ⟨x.p, 3, none⟩ = some (.pointer (some ⟨x.c, 0, none⟩)) := by
  have hb := h.blkAt 0 (b := x.p) (o := lgO x.clients x.v x.s x.c) rfl
  exact ⟨by rw [block_cell hb]; rfl, by rw [block_cell hb]; rfl, by rw [block_cell hb]; rfl, by rw [block_cell hb]; rfl⟩

set_option maxHeartbeats 400000 in
theorem ledger_new (n : Nat) (h1 : 1 ≤ n) (h4 : n ≤ 4) (h : Own B w0 W ss) :
    Calls Tryz.prog 86 #[.int .i64 n] W fun e w' => ∃ x : Lg, e = .returned (.tuple #[.pointer (some ⟨x.p, 0, none⟩), .int .i64 0]) ∧ LgOk x ∧ x.lp = newL n ∧ Own B w0 w' (lgL x ++ ss) := by
  have HC := Lib.hid (cache_new n h1 h4 h)
  clear h
  go_enter Tryz.func86, Tryz.ntmps86
  go_wp2_with fail
  refine HC.out.mono ?_
  rintro e w1 ⟨p, g, rfl, ho⟩
  have HS := Lib.hid (store_new ho)
  clear ho HC
  go_wp2_with fail
  refine HS.out.mono ?_
  rintro e w2 ⟨s, rfl, ho⟩
  have H2 := Lib.hid (own_toSeg ho Tryz.zst)
  clear ho HS
  go_wp2_with fail
  go_ret2
  have h3 := ((H2.out.row0 (E := 106) (sz := 7))).boxAt (lgO n (.slice none 0 0) s p) rfl
  refine ⟨⟨w2.heap.size, s, p, g, n, .slice none 0 0, n, [], st0, List.replicate n (0, 0)⟩, rfl, ⟨by simp, by simpa using h1, by simpa using h4, ⟨by simp, by show n ≤ maxLen; unfold maxLen; omega⟩, by simp⟩, rfl, ?_⟩
  exact h3

set_option maxHeartbeats 400000 in
theorem ledger_all (h : Own B w0 W (lgL x ++ ss)) (hk : LgOk x) :
    Calls Tryz.prog 51 #[.pointer (some ⟨x.p, 0, none⟩)] W fun e w' => ∃ v, e = .returned v ∧ Own B w0 w' (enR v x.es :: (lgL x ++ ss)) := by
  obtain ⟨i0, hi, hz0, hz1, hz2⟩ := info_parts Tryz.infoEn
  obtain ⟨-, c1, -, -⟩ := lg_cells h
  have h5 := hk.es
  have H := Lib.hid h
  have hr := owns_reads (ownR_owns (h.get 1 (r := enR x.v x.es) rfl))
  clear h
  go_enter Tryz.func51, Tryz.ntmps51
  go_wp2_with (at_builtin; refine wpList_fresh rfl (.tmp 6) 103 rfl 106 i0 (.agg #[.int .i64 0, .int .i64 0, .int .i64 0, .int .i64 0, .int .i64 0, .int .i64 0, .int .i64 0]) 7 56 Tryz.underlying103 hi hz0 hz1 hz2 rfl (by decide) _ _ _ rfl hr (ens_one x.es) (by omega) ?_)
  intro v w' ho hu
  have H2 := Lib.hid (H.out.row1 hu ho)
  clear ho hu
  go_wp2_with fail
  go_ret
  exact ⟨v, rfl, H2.out⟩

set_option maxHeartbeats 400000 in
theorem cache_clone (h : Own B w0 W (lgL x ++ ss)) (hk : LgOk x) :
    Calls Tryz.prog 192 #[.pointer (some ⟨x.c, 0, none⟩)] W fun e w' => ∃ p g cap, e = .returned (.pointer (some ⟨p, 0, none⟩)) ∧ x.rp.length ≤ cap ∧ cap ≤ maxLen ∧ Own B w0 w' (blk p (chO g x.rp.length cap) :: rpR g x.rp :: (lgL x ++ ss)) := by
  obtain ⟨i0, hi, hz0, hz1, hz2⟩ := info_parts Tryz.infoRp
  have c0 : W.cell? ⟨x.c, 0, none⟩ = some (.slice (some ⟨x.g, 0, none⟩) x.rp.length x.cap) := by rw [block_cell (h.blkAt 3 (b := x.c) (o := chO x.g x.rp.length x.cap) rfl)]; rfl
  have hr4 := hk.rp4
  have hr1 := hk.rp1
  have H := Lib.hid h
  have hr : Reads W (.slice (some ⟨x.g, 0, none⟩) x.rp.length x.cap) 2 x.rp.length (x.rp.flatMap rpCells) := by
    obtain ⟨q1, q2, -⟩ := segR_at (h.get 4 (r := rpR x.g x.rp) rfl)
    exact ⟨_, _, rfl, hk.cap.1, hk.cap.2, rp_len _, (fun e => by cases e), fun _ => ⟨x.g, 0, rfl, q1, fun j hj => by rw [Nat.zero_add]; exact q2 j (by rw [rp_len]; exact hj)⟩⟩
  clear h
  go_enter Tryz.func192, Tryz.ntmps192
  go_wp2_with (at_builtin; refine wpList_fresh rfl (.tmp 6) 287 rfl 286 i0 (.agg #[.int .i64 0, .int .i64 0]) 2 16 Tryz.underlying287 hi hz0 hz1 hz2 rfl (by decide) _ _ _ rfl hr (rp_one x.rp) (by omega) ?_)
  intro v w' ho hu
  have h2 := H.out.row1 hu ho
  have hsh : ∃ g cap, v = .slice (some ⟨g, 0, none⟩) x.rp.length cap ∧ x.rp.length ≤ cap ∧ cap ≤ maxLen := by
    rcases ho.2 with ⟨_, h0⟩ | ⟨g, cap, cur, rfl, _, _, h3, h4, _⟩
    · omega
    · exact ⟨g, cap, rfl, h3, h4⟩
  obtain ⟨g, cap, rfl, hc1, hc2⟩ := hsh
  have H2 := Lib.hid (h2.alter (r' := rpR g x.rp) (ownR_seg h2.head) (fun k hk => by simpa [ownR, segR, blkOf] using hk))
  clear ho hu h2
  go_wp2_with fail
  go_ret
  exact ⟨w'.heap.size, g, cap, rfl, hc1, hc2, H2.out.boxAt _ rfl⟩

theorem fold_at : ∀ (cs : List Value) (k : Nat) (z : Array Value) (j : Nat), (List.foldl (fun (a : Array Value) (x : Value × Nat) => a.setIfInBounds x.snd x.fst) z (cs.zipIdx k))[j]? = if k ≤ j ∧ j < k + cs.length ∧ j < z.size then cs[j - k]? else z[j]?
  | [], k, z, j => by simp; omega
  | v :: vs, k, z, j => by
    rw [List.zipIdx_cons, List.foldl_cons, fold_at vs (k + 1) _ j]
    simp only [Array.size_setIfInBounds, List.length_cons]
    by_cases hj : k = j
    · subst hj
      rw [if_neg (by omega)]
      by_cases hs : k < z.size
      · rw [if_pos ⟨Nat.le_refl _, by omega, hs⟩, Nat.sub_self]
        simp [hs]
      · rw [if_neg (by omega)]
        simp only [Array.setIfInBounds, hs, dite_false]
    · rw [Array.getElem?_setIfInBounds_ne hj]
      by_cases h2 : k + 1 ≤ j ∧ j < k + 1 + vs.length ∧ j < z.size
      · rw [if_pos h2, if_pos ⟨by omega, by omega, h2.2.2⟩, show j - k = (j - (k + 1)) + 1 by omega, List.getElem?_cons_succ]
      · rw [if_neg h2, if_neg (by omega)]

theorem fold_all (cs : List Value) (z : Array Value) (h : z.size = cs.length) : (List.foldl (fun (a : Array Value) (x : Value × Nat) => a.setIfInBounds x.snd x.fst) z cs.zipIdx).toList = cs := by
  apply List.ext_getElem?
  intro j
  rw [Array.getElem?_toList, fold_at cs 0 z j]
  by_cases hj : j < cs.length
  · rw [if_pos ⟨Nat.zero_le _, by omega, by omega⟩, Nat.sub_zero]
  · rw [if_neg (by omega), List.getElem?_eq_none (by omega), Array.getElem?_eq_none (by omega)]

theorem Tryz.zsts : Tryz.zeroCells192.size = 128 := by kernel_rfl

set_option maxHeartbeats 1600000 in
set_option maxRecDepth 100000 in
theorem store_walk (b : Nat) (cs : List Value) (hl : cs.length = 128) (hra : W.rangeAt b 0 cs) :
    Calls Tryz.prog 111 #[.pointer (some ⟨b, 0, none⟩)] W fun e w' => ∃ o, e = .returned (.pointer (some ⟨W.heap.size, 0, none⟩)) ∧ o.toList = cs ∧ w' = W.alloc (.cells o 192 (0, 0)) := by
  have HRA := Lib.hid hra
  have HI : Hid ((Tryz.prog.info? 190).map (·.size) = some cs.length) := Lib.hid (by rw [hl]; kernel_rfl)
  have HZ := Lib.hid (fold_all cs Tryz.zeroCells192 (by rw [Tryz.zsts, hl]))
  have c0 : ∃ v, W.cell? ⟨b, 0, none⟩ = some v := by
    have h0 : 0 < cs.length := by omega
    exact ⟨_, hra 0 _ (List.getElem?_eq_getElem h0)⟩
  clear hra
  go_enter Tryz.func111, Tryz.ntmps111
  go_wp2_with (refine wpList_load_mid rfl 190 (.tmp 5) rfl b 0 rfl cs _ HRA.out Tryz.underlying190 rfl HI.out ?_)
  go_wp2_with fail
  go_ret
  exact ⟨_, rfl, HZ.out, rfl⟩

theorem store_clone (h : Own B w0 W (lgL x ++ ss)) (hk : LgOk x) :
    Calls Tryz.prog 111 #[.pointer (some ⟨x.s, 0, none⟩)] W fun e w' => ∃ s, e = .returned (.pointer (some ⟨s, 0, none⟩)) ∧ Own B w0 w' (stR s x.st :: (lgL x ++ ss)) := by
  have hra : W.rangeAt x.s 0 (stCells x.st) := by
    obtain ⟨q1, q2, -⟩ := segR_at (h.get 2 (r := stR x.s x.st) rfl)
    intro j v hv
    rw [Nat.zero_add, q2 j (List.getElem?_eq_some_iff.1 hv).1]
    exact hv
  refine (store_walk x.s (stCells x.st) (by rw [st_len, hk.st]) hra).mono ?_
  rintro e w' ⟨o, rfl, ho, rfl⟩
  exact ⟨_, rfl, own_toSeg (h.box (.cells o 192 (0, 0))) ho⟩

end
end Go.Proofs.YtannckelmojkoaaGreat

/- Clones of what is new: clocks, tables, votes, guards, meters. -/
namespace Go.Proofs.YtannckelmojkoaaGreat
open Go.RowKit Go.Heap

section
variable {B : Nat} {w0 W W' : World} {ss : List Res}

set_option maxHeartbeats 1600000 in
theorem clock_clone {t : Nat} (hb : W.heap[t]? = some (.cells #[.int .i64 0, .slice none 0 0] 236 (0, 0))) :
    Calls Tryz.prog 113 #[.pointer (some ⟨t, 0, none⟩)] W fun e w' => ∃ p, e = .returned (.pointer (some ⟨p, 0, none⟩)) ∧ Upd [] W w' := by
  have c0 : W.cell? ⟨t, 0, none⟩ = some (.int .i64 0) := by rw [block_cell hb]; rfl
  have c1 : W.cell? ⟨t, 1, none⟩ = some (.slice none 0 0) := by rw [block_cell hb]; rfl
  clear hb
  go_enter Tryz.func113, Tryz.ntmps113
  go_wp2_with fail
  go_region
  all_goals go_wp2
  all_goals go_ret
  all_goals exact ⟨_, rfl, ((Upd.refl _ _).drew).alloc _⟩

set_option maxHeartbeats 1600000 in
theorem prop_clone {t : Nat} (hb : W.heap[t]? = some (.cells #[.int .i64 1, .int .i64 2, .slice none 0 0] 244 (0, 0))) :
    Calls Tryz.prog 115 #[.pointer (some ⟨t, 0, none⟩)] W fun e w' => ∃ p, e = .returned (.pointer (some ⟨p, 0, none⟩)) ∧ Upd [] W w' := by
  have c0 : W.cell? ⟨t, 0, none⟩ = some (.int .i64 1) := by rw [block_cell hb]; rfl
  have c1 : W.cell? ⟨t, 1, none⟩ = some (.int .i64 2) := by rw [block_cell hb]; rfl
  have c2 : W.cell? ⟨t, 2, none⟩ = some (.slice none 0 0) := by rw [block_cell hb]; rfl
  clear hb
  go_enter Tryz.func115, Tryz.ntmps115
  go_wp2_with fail
  go_region
  all_goals go_wp2
  all_goals go_ret
  all_goals exact ⟨_, rfl, ((Upd.refl _ _).drew).alloc _⟩

end
end Go.Proofs.YtannckelmojkoaaGreat

/- Clones of what is new: guards, votes, meters. Copies of structs. -/
namespace Go.Proofs.YtannckelmojkoaaGreat
open Go.RowKit Go.Heap

section
variable {B : Nat} {w0 w W W' : World} {ss : List Res}

theorem news_at {g : Nat} {cs : Array Value} {T : TypeId} (h : w.heap[g]? = some (.cells cs T (0, 0))) : ∀ j u, cs.toList[j]? = some u → w.cell? ((⟨g, 0, none⟩ : Addr).add j) = some u := by
  intro j u hj
  have : (⟨g, 0, none⟩ : Addr).add j = ⟨g, j, none⟩ := by unfold Addr.add; split <;> simp_all
  rw [this, block_cell h]
  simpa using hj

theorem reads_blk {g n sz : Nat} {cs : Array Value} {T : TypeId} (h : w.heap[g]? = some (.cells cs T (0, 0))) (hs : cs.size = n * sz) (hn : n ≤ maxLen) : Reads w (.slice (some ⟨g, 0, none⟩) n n) sz n cs.toList :=
  ⟨_, _, rfl, Nat.le_refl _, hn, by simpa using hs, (fun e => by cases e), fun _ => ⟨g, 0, rfl, block_lt h, fun j _ => by rw [Nat.zero_add, block_cell h]; simp⟩⟩

theorem range_upd {b o : Nat} {cs : List Value} (hu : Upd [] w W) (h : w.rangeAt b o cs) : W.rangeAt b o cs := fun j v hj => cell_upd hu (h j v hj)
theorem range_alloc {b o : Nat} {cs : List Value} {ob : Obj} (h : w.rangeAt b o cs) : (w.alloc ob).rangeAt b o cs := fun j v hj => cell_allocd (h j v hj)
theorem range_blk {b : Nat} {cs : Array Value} {T : TypeId} (h : w.heap[b]? = some (.cells cs T (0, 0))) : w.rangeAt b 0 cs.toList := fun j v hj => by
  rw [Nat.zero_add, block_cell h]
  simpa using hj
theorem range_seg {b : Nat} {T : TypeId} {cs : List Value} {A : List Nat} (h : (segR b T cs).At w A) : w.rangeAt b 0 cs := fun j v hj => by
  obtain ⟨-, q, -⟩ := segR_at h
  rw [Nat.zero_add, q j (List.getElem?_eq_some_iff.1 hj).1]
  exact hj

theorem setCells_blk {b : Nat} {T : TypeId} {fr : Nat × Nat} : ∀ (vs : List Value) (o : Nat) (w : World) (cur : Array Value), w.heap[b]? = some (.cells cur T fr) → ∃ cur', (w.setCells b o vs).heap[b]? = some (.cells cur' T fr) ∧ cur'.size = cur.size ∧
    ∀ j, cur'[j]? = if o ≤ j ∧ j < o + vs.length ∧ j < cur.size then vs[j - o]? else cur[j]?
  | [], o, w, cur, h => ⟨cur, h, rfl, fun j => by rw [if_neg (by simp; omega)]⟩
  | v :: vs, o, w, cur, h => by
    have h1 : (w.setCell ⟨b, o, none⟩ v).heap[b]? = some (.cells (cur.setIfInBounds o v) T fr) := by rw [hp_same rfl, h]; rfl
    obtain ⟨cur', e1, e2, e3⟩ := setCells_blk vs (o + 1) _ _ h1
    refine ⟨cur', e1, by simpa using e2, fun j => ?_⟩
    rw [e3 j]
    simp only [Array.size_setIfInBounds, List.length_cons]
    by_cases hj : o = j
    · subst hj
      rw [if_neg (by omega), Array.getElem?_setIfInBounds_self]
      by_cases hs : o < cur.size
      · rw [if_pos hs, if_pos ⟨Nat.le_refl _, by omega, hs⟩]; simp
      · rw [if_neg hs, if_neg (by omega), Array.getElem?_eq_none (by omega)]
    · rw [Array.getElem?_setIfInBounds_ne hj]
      by_cases h2 : o + 1 ≤ j ∧ j < o + 1 + vs.length ∧ j < cur.size
      · rw [if_pos h2, if_pos ⟨by omega, by omega, h2.2.2⟩]
        rw [show j - o = (j - (o + 1)) + 1 by omega, List.getElem?_cons_succ]
      · rw [if_neg h2, if_neg (by omega)]

theorem upd_setCs {b : Nat} : ∀ (vs : List Value) (o : Nat) (w0 w : World), Upd [b] w0 w → Upd [b] w0 (w.setCells b o vs)
  | [], _, _, _, h => h
  | v :: vs, o, w0, w, h => upd_setCs vs (o + 1) w0 _ (h.setCell (.inl (by simp)) v)

/-- A struct that was copied into a new block. -/
theorem own_struct (h : Own B w0 W ss) {z : Array Value} {T : TypeId} {cs : List Value} (hz : z.size = cs.length) {n : Nat} (hn : W.heap.size = n) : Own B w0 ((W.alloc (.cells z T (0, 0))).setCells n 0 cs) (segR n T cs :: ss) := by
  subst hn
  have h1 := h.box (.cells z T (0, 0))
  have hu : Upd [W.heap.size] (W.alloc (.cells z T (0, 0))) ((W.alloc (.cells z T (0, 0))).setCells W.heap.size 0 cs) := upd_setCs _ _ _ _ (Upd.refl _ _)
  obtain ⟨cur', e1, e2, e3⟩ := setCells_blk cs 0 (W.alloc (.cells z T (0, 0))) z (heap_alloc_new W _)
  exact h1.step (r' := segR W.heap.size T cs) hu ⟨[], ⟨⟨cur', e1, by rw [e2, hz]; exact Nat.le_refl _, fun j hj => by
    rw [e3 j, if_pos ⟨by omega, by omega, by omega⟩, Nat.sub_zero]⟩, rfl⟩, by simp, fun k hk => Nat.lt_of_lt_of_le (h1.lt k hk) hu.size⟩ (fun k hk => .inl hk)

theorem there_new {z : Array Value} {T : TypeId} {n k : Nat} (hn : W.heap.size = n) (hk : k ≤ z.size) : (W.alloc (.cells z T (0, 0))).there n 0 k := fun j hj => by
  subst hn
  have hb := heap_alloc_new W (.cells z T (0, 0))
  refine ⟨?_, block_frozen hb _⟩
  rw [Nat.zero_add, block_cell hb, Array.getElem?_eq_getElem (by omega)]
  rfl

set_option maxHeartbeats 1600000 in
theorem flood_clone {t : Nat} (hb : W.heap[t]? = some (.cells #[.int .i64 8, .int .i64 8, .slice none 0 0] 250 (0, 0))) :
    Calls Tryz.prog 117 #[.pointer (some ⟨t, 0, none⟩)] W fun e w' => ∃ p, e = .returned (.pointer (some ⟨p, 0, none⟩)) ∧ Upd [] W w' := by
  have c0 : W.cell? ⟨t, 0, none⟩ = some (.int .i64 8) := by rw [block_cell hb]; rfl
  have c1 : W.cell? ⟨t, 1, none⟩ = some (.int .i64 8) := by rw [block_cell hb]; rfl
  have c2 : W.cell? ⟨t, 2, none⟩ = some (.slice none 0 0) := by rw [block_cell hb]; rfl
  clear hb
  go_enter Tryz.func117, Tryz.ntmps117
  go_wp2_with fail
  go_region
  all_goals go_wp2
  all_goals go_ret
  all_goals exact ⟨_, rfl, ((Upd.refl _ _).drew).alloc _⟩

theorem cv_one : ∀ u ∈ (madeCells #[.bool false, .int .i64 0, .int .i64 0] 12).toList, u.oneCell' = true := by decide +kernel
theorem cv_size : (madeCells #[.bool false, .int .i64 0, .int .i64 0] 12).toList.length = 12 := by simp [size_madeCells]

set_option maxHeartbeats 1600000 in
theorem change_clone {t g : Nat} (hb : W.heap[t]? = some (.cells #[.int .i64 1, .slice (some ⟨g, 0, none⟩) 4 4] 247 (0, 0))) (hg : W.heap[g]? = some (.cells (madeCells #[.bool false, .int .i64 0, .int .i64 0] 12) 320 (0, 0))) :
    Calls Tryz.prog 116 #[.pointer (some ⟨t, 0, none⟩)] W fun e w' => ∃ p, e = .returned (.pointer (some ⟨p, 0, none⟩)) ∧ Upd [] W w' := by
  obtain ⟨i0, hi, hz0, hz1, hz2⟩ := info_parts Tryz.infocv
  have c0 : W.cell? ⟨t, 0, none⟩ = some (.int .i64 1) := by rw [block_cell hb]; rfl
  have c1 : W.cell? ⟨t, 1, none⟩ = some (.slice (some ⟨g, 0, none⟩) 4 4) := by rw [block_cell hb]; rfl
  have HN := Lib.hid (news_at hg)
  have HO := Lib.hid cv_one
  have HS := Lib.hid cv_size
  clear hb hg
  generalize (madeCells #[.bool false, .int .i64 0, .int .i64 0] 12).toList = cs at *
  go_enter Tryz.func116, Tryz.ntmps116
  go_wp2_with fail
  have d0 : W.drew.cell? ⟨t, 0, none⟩ = some (.int .i64 1) := c0
  have d1 : W.drew.cell? ⟨t, 1, none⟩ = some (.slice (some ⟨g, 0, none⟩) 4 4) := c1
  go_region_held3 (fun w' => w'.cell? ⟨t, 0, none⟩ = some (.int .i64 1) ∧ w'.cell? ⟨t, 1, none⟩ = some (.slice (some ⟨g, 0, none⟩) 4 4))
    (first | (with_reducible exact ⟨d0, d1⟩) | (with_reducible exact ⟨e0, e1⟩) | (with_reducible exact ⟨cell_allocd e0, cell_allocd e1⟩))
    (first | (refine step_append_lies _ (by rfl) (.const (.slice none 0 0)) (.tmp 10) _ (by rfl) W.heap.size 320 i0 (.agg #[.bool false, .int .i64 0, .int .i64 0]) 3 24 Tryz.underlying245 hi hz0 hz1 hz2 rfl (by decide) (.slice none 0 0) 0 [] (by rfl) (World.ownsRow_nil _ _ _ _) ⟨g, 0, none⟩ 4 4 cs (by rfl) HS.out HN.out HO.out (by decide) (by decide) (by decide) (Nat.le_refl _) W.heap.size (by simp) ?_; intro g1 cap1 w1 hown1 hgrow hat hlt; have hu1 : Upd [] W.drew w1 := (Upd.refl _ _).grown hgrow (by intro k hk; cases hk); have HU1 := Lib.hid hu1; have e0 := cell_upd hu1 d0; have e1 := cell_upd hu1 d1; clear hown1 hgrow hat hlt hu1))
  go_wp2_with fail
  go_ret
  exact ⟨_, rfl, (((Upd.refl _ _).drew).trans HU1.out).alloc _⟩

end
end Go.Proofs.YtannckelmojkoaaGreat

/- Meters, clients, seals: made and cloned. -/
namespace Go.Proofs.YtannckelmojkoaaGreat
open Go.RowKit Go.Heap

section
variable {B : Nat} {w0 w W W' : World} {ss : List Res}

theorem cx_one : ∀ u ∈ (madeCells #[.complex .f64 0 0] 2).toList, u.oneCell' = true := by decide +kernel
theorem cx_size : (madeCells #[.complex .f64 0 0] 2).size = 2 * 1 := by simp [size_madeCells]

set_option maxHeartbeats 400000 in
theorem meter_all {t g : Nat} (hb : W.heap[t]? = some (.cells #[.slice (some ⟨g, 0, none⟩) 2 2] 254 (0, 0))) (hg : W.heap[g]? = some (.cells (madeCells #[.complex .f64 0 0] 2) 269 (0, 0))) :
    Calls Tryz.prog 95 #[.pointer (some ⟨t, 0, none⟩)] W fun e w' => ∃ ao cap, e = .returned (.slice ao 2 cap) ∧ Upd [] W w' := by
  obtain ⟨i0, hi, hz0, hz1, hz2⟩ := info_parts Tryz.infocx
  have c0 : W.cell? ⟨t, 0, none⟩ = some (.slice (some ⟨g, 0, none⟩) 2 2) := by rw [block_cell hb]; rfl
  have hr := reads_blk hg cx_size (by decide)
  have HO := Lib.hid cx_one
  clear hb hg
  generalize (madeCells #[.complex .f64 0 0] 2).toList = cs at *
  go_enter Tryz.func95, Tryz.ntmps95
  go_wp2_with (at_builtin; refine wpList_fresh rfl (.tmp 6) 169 rfl 269 i0 (.complex .f64 0 0) 1 16 Tryz.underlying169 hi hz0 hz1 hz2 rfl (by decide) _ _ _ rfl hr HO.out (by decide) ?_)
  intro v w' ho hu
  have HU := Lib.hid hu
  obtain ⟨ao, cap, rfl⟩ := row_shape ho
  clear ho hu
  go_wp2_with fail
  go_ret
  exact ⟨ao, cap, rfl, HU.out⟩

set_option maxHeartbeats 400000 in
theorem meter_clone {t g : Nat} (hb : W.heap[t]? = some (.cells #[.slice (some ⟨g, 0, none⟩) 2 2] 254 (0, 0))) (hg : W.heap[g]? = some (.cells (madeCells #[.complex .f64 0 0] 2) 269 (0, 0))) :
    Calls Tryz.prog 118 #[.pointer (some ⟨t, 0, none⟩)] W fun e w' => ∃ p, e = .returned (.pointer (some ⟨p, 0, none⟩)) ∧ Upd [] W w' := by
  have HA := Lib.hid (meter_all hb hg)
  clear hb hg
  go_enter Tryz.func118, Tryz.ntmps118
  go_wp2_with fail
  refine HA.out.mono ?_
  rintro e w' ⟨ao, cap, rfl, hu⟩
  have HU := Lib.hid hu
  clear hu
  go_wp2_with fail
  go_ret
  exact ⟨_, rfl, HU.out.alloc _⟩

abbrev clCs (id : Int) (n t : Value) : List Value := [.int .i64 1, .int .i64 2, .int .i64 2, .int .i64 4, .int .i64 64, .int .i64 8, .int .i64 8, .int .i64 8, .int .i64 1, .int .i64 2, .int .i64 12, .int .i64 8, .int .i64 6, .int .i64 2, .int .i64 6,
  .int .i64 id, n, t, .bool false, .slice none 0 0, .int .i64 0, .slice none 0 0, .slice none 0 0, .slice none 0 0]
/-- A configuration lies there. -/
abbrev CfgAt (w : World) (b : Nat) : Prop := w.cell? ⟨b, 0, none⟩ = some (.int .i64 1) ∧ w.cell? ⟨b, 1, none⟩ = some (.int .i64 2) ∧ w.cell? ⟨b, 2, none⟩ = some (.int .i64 2) ∧ w.cell? ⟨b, 3, none⟩ = some (.int .i64 4) ∧ w.cell? ⟨b, 4, none⟩ = some (.int .i64 64) ∧ w.cell? ⟨b, 5, none⟩ = some (.int .i64 8) ∧ w.cell? ⟨b, 6, none⟩ = some (.int .i64 8) ∧ w.cell? ⟨b, 7, none⟩ = some (.int .i64 8) ∧ w.cell? ⟨b, 8, none⟩ = some (.int .i64 1) ∧ w.cell? ⟨b, 9, none⟩ = some (.int .i64 2) ∧ w.cell? ⟨b, 10, none⟩ = some (.int .i64 12) ∧ w.cell? ⟨b, 11, none⟩ = some (.int .i64 8) ∧ w.cell? ⟨b, 12, none⟩ = some (.int .i64 6) ∧ w.cell? ⟨b, 13, none⟩ = some (.int .i64 2) ∧ w.cell? ⟨b, 14, none⟩ = some (.int .i64 6)
theorem cfg_range {b : Nat} (h : w.rangeAt b 0 cfgCs.toList) : CfgAt w b := by
  refine ⟨?_, ?_, ?_, ?_, ?_, ?_, ?_, ?_, ?_, ?_, ?_, ?_, ?_, ?_, ?_⟩
  · exact Nat.zero_add 0 ▸ h 0 _ rfl
  · exact Nat.zero_add 1 ▸ h 1 _ rfl
  · exact Nat.zero_add 2 ▸ h 2 _ rfl
  · exact Nat.zero_add 3 ▸ h 3 _ rfl
  · exact Nat.zero_add 4 ▸ h 4 _ rfl
  · exact Nat.zero_add 5 ▸ h 5 _ rfl
  · exact Nat.zero_add 6 ▸ h 6 _ rfl
  · exact Nat.zero_add 7 ▸ h 7 _ rfl
  · exact Nat.zero_add 8 ▸ h 8 _ rfl
  · exact Nat.zero_add 9 ▸ h 9 _ rfl
  · exact Nat.zero_add 10 ▸ h 10 _ rfl
  · exact Nat.zero_add 11 ▸ h 11 _ rfl
  · exact Nat.zero_add 12 ▸ h 12 _ rfl
  · exact Nat.zero_add 13 ▸ h 13 _ rfl
  · exact Nat.zero_add 14 ▸ h 14 _ rfl
theorem cfg_upd {b : Nat} (hu : Upd [] w W) (h : CfgAt w b) : CfgAt W b := by
  obtain ⟨h0, h1, h2, h3, h4, h5, h6, h7, h8, h9, h10, h11, h12, h13, h14⟩ := h
  exact ⟨cell_upd hu h0, cell_upd hu h1, cell_upd hu h2, cell_upd hu h3, cell_upd hu h4, cell_upd hu h5, cell_upd hu h6, cell_upd hu h7, cell_upd hu h8, cell_upd hu h9, cell_upd hu h10, cell_upd hu h11, cell_upd hu h12, cell_upd hu h13, cell_upd hu h14⟩
theorem cfg_alloc {b : Nat} {o : Obj} (h : CfgAt w b) : CfgAt (w.alloc o) b := cfg_upd ((Upd.refl _ _).alloc o) h

abbrev clockO : Obj := .cells #[.int .i64 0, .slice none 0 0] 236 (0, 0)

theorem clock_new2 (h : Own B w0 W ss) : Calls Tryz.prog 81 #[] W fun e w' => ∃ p, e = .returned (.pointer (some ⟨p, 0, none⟩)) ∧ Upd [] W w' ∧ Own B w0 w' (blk p clockO :: ss) := by
  have H := Lib.hid h
  clear h
  go_enter Tryz.func81, Tryz.ntmps81
  go_wp2
  go_ret
  exact ⟨_, rfl, (Upd.refl _ _).alloc _, H.out.box _⟩

theorem Tryz.infoCfg : (Tryz.prog.info? 30).map (·.size) = some cfgCs.toList.length := by kernel_rfl

end
end Go.Proofs.YtannckelmojkoaaGreat
