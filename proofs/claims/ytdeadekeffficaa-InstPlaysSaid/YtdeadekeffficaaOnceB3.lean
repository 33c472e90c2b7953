/- Parts of the proof, one behind the other. -/
import Derived.Test.YtdeadekeffficaaOnceB2
import Derived.Laws.AppendOwnNone
import Derived.Deep.AppendLies

/- inst: Pre, Next. -/
namespace Go.Proofs.Ytdeadekeffficaa
open Go.RowKit Go.Heap

section
variable {B : Nat} {w0 W W' : World} {ss rs : List Res} {x : Ins}

theorem in_blk {b : Nat} {o : Obj} (h : Own B w0 W rs) (hm : blk b o ∈ rs) : W.heap[b]? = some o := blk_out (h.all _ hm).1

theorem done_le {st : In} : doneI st ≤ st.l.length := by
  unfold doneI
  exact (List.takeWhile_sublist _).length_le

theorem ins_done_le (h : InsOk x) : doneI x.st ≤ 16 := by
  have := done_le (st := x.st)
  simp [Ins.st, h.n] at this
  exact this

theorem pre_off {seq : Int} {st : In} (hk : idx seq = none) (l : List Rq) : preB st seq = false ∧ preI st seq l = st := by
  simp [preB, preI, plAt_none hk, hk]

theorem pre_no {seq : Int} {st : In} (h : preB st seq = false) (l : List Rq) : preI st seq l = st := by
  unfold preI
  rw [h]
  cases idx seq <;> rfl

/-- Cells of an instance of which a slot lies apart. -/
theorem pk_cells {r : Res} {rest : List Res} (h : Own B w0 W (r :: (insHd x ++ rest))) : W.cell? ⟨x.i, 2, none⟩ = some (.int .i64 x.ahead) ∧ W.cell? ⟨x.i, 4, none⟩ = some (.bool x.on) ∧ W.cell? ⟨x.i, 5, none⟩ = some (.slice (some ⟨x.b, 0, none⟩) 16 x.cap) ∧
    ∀ k, k < x.l.length → W.cell? ⟨x.b, k * 14, none⟩ = (x.l[k]?).map (·.lc.ptr) := by
  have hb := in_blk h (b := x.i) (o := x.o) (by simp [insHd])
  refine ⟨by rw [block_cell hb]; rfl, by rw [block_cell hb]; rfl, by rw [block_cell hb]; rfl, fun k hk => ?_⟩
  obtain ⟨-, h2, -⟩ := segR_at (h.all (segR x.b 122 (x.l.flatMap pmCells)) (by simp [insHd])).1
  obtain ⟨e1, e2⟩ := flat14 x.l k 0 hk (by omega)
  rw [Nat.add_zero] at e1 e2
  rw [h2 _ e2, e1, List.getElem?_eq_getElem hk]
  rfl

theorem quiet_eq {P : Program} {f : FuncId} {args : Array Value} {w : World} {n : Nat} {v : Value} (h : Calls P f args (w.drewN n) fun e w' => e = .returned v ∧ w.drewN n = w') : Calls P f args (w.drewN n) fun e w'' => e = .returned v ∧ ∃ m, w'' = w.drewN m :=
  h.mono fun _ _ ⟨he, hm⟩ => ⟨he, n, hm.symm⟩

set_option maxHeartbeats 1000000 in
theorem ins_pre (h : Own B w0 W (instR x :: ss)) {i : Nat} (hi : x.i = i) (seq : Int) (v : Value) (l : List Rq) (hb : Bat W v l) (hn : l.length ≤ 100000) :
    Calls Try.prog 40 #[.pointer (some ⟨i, 0, none⟩), .int .i64 seq, v] W (InsP B w0 W i (preI x.st seq l) ss (.bool (preB x.st seq))) := by
  subst hi
  have ho := own_open h
  have hod := oi_drew ho
  obtain ⟨-, -, c2w, -, c4w, c5, l1, l2⟩ := oi_cells ho
  obtain ⟨-, -, c2, -, c4, -, -, -⟩ := oi_cells hod
  cases hk : idx seq with
  | none =>
    have hs := idx_none hk
    have HE := Lib.hid (pre_off (st := x.st) hk l)
    have HA := Lib.hid (at_no x.i x.b x.cap seq W hs c5)
    have H := Lib.hid h
    clear ho hod h hk hs c2 c4 c4w c5 hb
    go_enter Try.func40, Try.ntmps40
    go_wp2_with fail
    refine HA.out.mono ?_
    rintro e w' ⟨rfl, rfl⟩
    go_wp2_with fail
    go_quiet (fail)
    go_wp2_with fail
    go_ret
    rw [HE.out.1]
    exact insP_same (H.out.upd0 ((Upd.refl _ _).drewN _)) HE.out.2
  | some k =>
    obtain ⟨hl, hp⟩ := plAt_some (oi_ok ho) hk
    obtain ⟨i1, i2⟩ := idx_lt hk
    have HA := Lib.hid (at_yes x.i x.b x.cap seq W (by omega) (by omega) c5)
    have hks : seq.toNat - 1 = k := by omega
    rw [hks] at HA
    have cp := oi_ptr hod k hl
    by_cases hon : x.on = true
    · rw [hon] at c4 c4w
      have hdl := ins_done_le (oi_ok ho)
      obtain ⟨a1, a2⟩ : 1 ≤ x.ahead ∧ x.ahead ≤ 16 := ⟨(oi_ok ho).a1, (oi_ok ho).a2⟩
      have HD := Lib.hid (done_open hod)
      have HDN := Lib.hid (fun n => done_open (x := x) (Own.upd0 ho ((Upd.refl _ _).drewN n)))
      have HW := Lib.hid h
      have HBQ := Lib.hid (show preB x.st seq = (decide (seq ≤ doneI x.st + x.ahead) && !x.l[k].sl.has) by simp only [preB, hp, Pm.pl]; simp [Ins.st, hon])
      have HIQ := Lib.hid (fun hq : preB x.st seq = true => show preI x.st seq l = x.st.upd k fun p => { p with sl := slPre l p.sl } by simp only [preI, hk]; rw [if_pos hq])
      have HNQ := Lib.hid (fun hq : preB x.st seq = false => pre_no hq l)
      have HC := Lib.hid (own_pre (oi_pick hod k hl) v l (hb.upd (M := []) (Upd.refl _ _).drew (by simp)) hn)
      have H := Lib.hid hod
      have HX := Lib.hid hon
      clear ho hod h hk c5 hp i2 hks hon hb
      unfold DoneP at HD HDN
      generalize doneI x.st = d at *
      have hsum : IntKind.i64.wrap ((d : Int) + x.ahead) = (d : Int) + x.ahead := IntWalk.i64_in _ (by omega)
      by_cases hw : seq ≤ (d : Int) + x.ahead
      · have hwb : decide (seq ≤ (d : Int) + x.ahead) = true := by simp [hw]
        rw [hwb, Bool.true_and] at HBQ
        go_enter Try.func40, Try.ntmps40
        go_wp2_with fail
        refine HA.out.mono ?_
        rintro e w' ⟨rfl, rfl⟩
        go_wp2_with fail
        go_region_held3 (fun w' => w'.cell? ⟨x.i, 4, none⟩ = some (.bool true) ∧ w'.cell? ⟨x.i, 2, none⟩ = some (.int .i64 x.ahead) ∧ w'.cell? ⟨x.b, k * 14, none⟩ = some x.l[k].lc.ptr)
          (first | (with_reducible exact ⟨c4, c2, cp⟩) | (with_reducible exact ⟨d4, d2, dp⟩))
          (first
            | (go_at_call 37; refine HD.out.mono ?_; rintro e w' ⟨rfl, rfl⟩)
            | (go_at_call 20; refine HC.out.mono ?_; rintro e w' ⟨rfl, -, h2⟩; have H2 := Lib.hid h2; obtain ⟨d2, d4, -, dp⟩ := pk_cells h2; rw [HX.out] at d4; have dp := dp k hl; rw [List.getElem?_eq_getElem hl, Option.map_some] at dp; clear h2))
        go_wp2_with fail
        go_ret
        rw [HBQ.out]
        cases hh : x.l[k].sl.has
        · rw [HIQ.out (by rw [HBQ.out, hh]; rfl)]
          refine ⟨rfl, x.sl k { x.l[k] with sl := slPre l x.l[k].sl }, rfl, st_set x k hl _ _ rfl, own_shut (oi_unpick k hl _ ?_ rfl ⟨rfl, rfl⟩ rfl)⟩
          exact H2.out
        · rw [HNQ.out (by rw [HBQ.out, hh]; rfl)]
          refine ⟨rfl, x.sl k { x.l[k] with sl := slPre l x.l[k].sl }, rfl, ?_, own_shut (oi_unpick k hl _ H2.out rfl ⟨rfl, rfl⟩ rfl)⟩
          rw [st_set x k hl _ id (by simp [Pm.pl, slPre, hh]), In.upd, List.modify_id]
      · have hwb : decide (seq ≤ (d : Int) + x.ahead) = false := by simp; omega
        rw [hwb, Bool.false_and] at HBQ
        go_enter Try.func40, Try.ntmps40
        go_wp2_with fail
        refine HA.out.mono ?_
        rintro e w' ⟨rfl, rfl⟩
        go_wp2_with fail
        go_quiet ((go_at_call 37; exact quiet_eq (HDN.out _)))
        go_wp2_with fail
        go_ret
        rw [HBQ.out, HNQ.out HBQ.out]
        exact insP_same (HW.out.upd0 ((Upd.refl _ _).drewN _)) rfl
    · have hon' : x.on = false := by simpa using hon
      rw [hon'] at c4w
      clear c4
      have HB := Lib.hid (show preB x.st seq = false by simp only [preB, hp]; simp [Ins.st, hon'])
      have HI := Lib.hid (pre_no HB.out l)
      have H := Lib.hid h
      clear ho hod h hk c5 hp i2 hks hon hb hon' c2
      go_enter Try.func40, Try.ntmps40
      go_wp2_with fail
      refine HA.out.mono ?_
      rintro e w' ⟨rfl, rfl⟩
      go_wp2_with fail
      go_quiet (fail)
      go_wp2_with fail
      go_ret
      rw [HB.out]
      exact insP_same (H.out.upd0 ((Upd.refl _ _).drewN _)) HI.out

end
end Go.Proofs.Ytdeadekeffficaa

/- inst: Next; fresh, cert. -/
namespace Go.Proofs.Ytdeadekeffficaa
open Go.RowKit Go.Heap

section
variable {B : Nat} {w0 W W' : World} {ss rs : List Res} {x : Ins}

set_option maxHeartbeats 1000000 in
theorem ins_next (h : Own B w0 W (instR x :: ss)) {i : Nat} (hi : x.i = i) : Calls Try.prog 52 #[.pointer (some ⟨i, 0, none⟩)] W fun e w' => e = .returned (.int .i64 (nextI x.st)) ∧ Upd [] W w' := by
  subst hi
  have ho := own_open h
  obtain ⟨-, -, -, -, -, c5, l1, l2⟩ := oi_cells ho
  have HN := Lib.hid (oi_ok ho).n
  have HL := Lib.hid (fun k h1 h2 h3 => lastHas_of (x.l.map Pm.pl) k h1 h2 h3)
  have H := Lib.hid ho
  clear ho h
  go_enter Try.func52, Try.ntmps52
  go_wp2_with fail
  go_loopw [3] (fun n wr => ∃ k : Nat, k ≤ 16 ∧ n = .int .i64 k ∧ Hid (∀ j (hj : j < x.l.length), k ≤ j → x.l[j].sl.has = false) ∧ Hid (Upd [] W wr)) (fun n _ => (intOf n).toNat)
  case atStart => exact ⟨16, by omega, rfl, Lib.hid (by intro j hj hk; rw [HN.out] at hj; omega), Lib.hid (Upd.refl _ _)⟩
  case round =>
    clear c5
    obtain ⟨k, hk, rfl, HA, HU⟩ := hrel
    have hor := H.out.upd0 HU.out
    obtain ⟨-, -, -, -, -, c5, -, -⟩ := oi_cells hor
    by_cases h0 : k = 0
    · subst h0
      clear hor
      go_wp2_with fail
      go_ret
      refine ⟨ret_int ?_, HU.out⟩
      rw [nextI, show lastHas x.st.l = 0 from HL.out 0 (by simp) (fun j hj hk => by simpa [Pm.pl] using HA.out j (by simpa using hj) hk) (fun j _ e => by omega)]
      rfl
    · have hk0 : (0 : Int) < (k : Int) := by omega
      have hk1 : (k : Int) - 1 = ((k - 1 : Nat) : Int) := by omega
      have hl : k - 1 < x.l.length := by rw [HN.out]; omega
      have hsub : IntKind.i64.wrap ((k : Int) - 1) = ((k - 1 : Nat) : Int) := by rw [hk1]; exact IntWalk.i64_in _ (by omega)
      have cp := oi_ptr hor (k - 1) hl
      have HC := Lib.hid (own_chosen (oi_pick hor (k - 1) hl))
      clear hor hk1 h0
      go_wp2_with fail
      refine HC.out.mono ?_
      rintro e w' ⟨u, rfl, hu, -, -⟩
      have HU2 := Lib.hid (HU.out.trans hu)
      clear hu cp
      cases hh : x.l[k - 1].sl.has
      · have HH := Lib.hid hh
        clear hh
        go_wp2_with fail
        go_roundw
        case rel =>
          refine ⟨k - 1, by omega, by go_num, Lib.hid (fun j hj hkj => ?_), HU2⟩
          by_cases e : j = k - 1
          · subst e; exact HH.out
          · exact HA.out j hj (by omega)
        case measure => simp [intOf]; omega
      · have HH := Lib.hid hh
        clear hh
        go_wp2_with fail
        go_ret
        refine ⟨ret_int ?_, HU2.out⟩
        rw [nextI, show lastHas x.st.l = k from HL.out k (by simp [HN.out]; omega) (fun j hj hk => by simpa [Pm.pl] using HA.out j (by simpa using hj) hk) (fun j hj e => by subst e; simpa [Pm.pl] using HH.out)]
        simp

end
end Go.Proofs.Ytdeadekeffficaa

/- A law's state: one slot, some batches that stay. -/
namespace Go.Proofs.Ytdeadekeffficaa
open Go.RowKit Go.Heap

def rq (c t : Int) : Rq := ⟨c, t, 0, 0, 0, 0⟩

abbrev rqObj (c t : Int) : Obj := .cells #[.int .i64 c, .int .i64 t, .int .i64 0, .int .i64 0, .int .i64 0, .int .i64 0] 32

theorem bat_one {w : World} {g : Nat} {c t : Int} (h : w.heap[g]? = some (rqObj c t)) : Bat w (.slice (some ⟨g, 0, none⟩) 1 1) [rq c t] := by
  refine ⟨some ⟨g, 0, none⟩, 1, rfl, Nat.le_refl _, by simp [maxLen], rfl, (fun e => by cases e), fun _ => ⟨g, 0, rfl, block_lt h, fun j hj => ?_⟩⟩
  rw [Nat.zero_add, block_cell h]
  match j, hj with
  | 0, _ => rfl
  | 1, _ => rfl
  | 2, _ => rfl
  | 3, _ => rfl
  | 4, _ => rfl
  | 5, _ => rfl

theorem vts_three {w : World} {g : Nat} {a b c d e f : Int} (h : w.heap[g]? = some (.cells #[.int .i64 a, .int .i64 b, .int .i64 c, .int .i64 d, .int .i64 e, .int .i64 f] 44 (0, 0))) : Vts w (.slice (some ⟨g, 0, none⟩) 3 3) [(a, b), (c, d), (e, f)] := by
  refine ⟨some ⟨g, 0, none⟩, 3, rfl, Nat.le_refl _, by simp [maxLen], rfl, (fun e => by cases e), fun _ => ⟨g, 0, rfl, block_lt h, fun j hj => ?_⟩⟩
  rw [Nat.zero_add, block_cell h]
  match j, hj with
  | 0, _ => rfl
  | 1, _ => rfl
  | 2, _ => rfl
  | 3, _ => rfl
  | 4, _ => rfl
  | 5, _ => rfl

theorem vts_form {w : World} {v : Value} {l : Vs} (h : Vts w v l) : ∃ ao cap, v = .slice ao l.length cap := let ⟨ao, cap, hv, _⟩ := h; ⟨ao, cap, hv⟩

abbrev sl1 (g : Nat) : Value := .slice (some ⟨g, 0, none⟩) 1 1

/-- One slot at L, in state st; the batches bs lie where the slot does not write; below B all is as in w0. -/
structure St (B : Nat) (w0 W : World) (L : Loc) (st : Sl) (bs : List (Value × List Rq)) : Prop where
  below : Below B w0 W
  size : B ≤ W.heap.size
  M : ∀ k ∈ L.M, B ≤ k
  on : On W L st []
  bat : ∀ p ∈ bs, Bat W p.1 p.2 ∧ ∀ b ∈ blkOf p.1, b ∉ L.M ∧ b < W.heap.size

section
variable {B : Nat} {w0 W W' : World} {L : Loc} {st : Sl} {bs : List (Value × List Rq)}

theorem St.upd0 (h : St B w0 W L st bs) (hu : Upd [] W W') : St B w0 W' L st bs where
  below := h.below.trans (hu.below.mono h.size)
  size := Nat.le_trans h.size hu.size
  M := h.M
  on := h.on.upd0 hu
  bat := fun p hp => ⟨(h.bat p hp).1.upd hu (by simp), fun b hb => ⟨((h.bat p hp).2 b hb).1, Nat.lt_of_lt_of_le ((h.bat p hp).2 b hb).2 hu.size⟩⟩

theorem St.alloc (h : St B w0 W L st bs) (o : Obj) : St B w0 (W.alloc o) L st bs := h.upd0 ((Upd.refl _ _).alloc o)
theorem St.drew (h : St B w0 W L st bs) : St B w0 W.drew L st bs := h.upd0 (Upd.refl _ _).drew

theorem St.batch (h : St B w0 W L st bs) (c t : Int) : St B w0 (W.alloc (rqObj c t)) L st ((sl1 W.heap.size, [rq c t]) :: bs) where
  below := (h.alloc _).below
  size := (h.alloc (rqObj c t)).size
  M := h.M
  on := (h.alloc _).on
  bat := by
    intro p hp
    rcases List.mem_cons.1 hp with rfl | hp
    · refine ⟨bat_one (heap_alloc_new W _), fun b hb => ?_⟩
      simp [blkOf] at hb
      subst hb
      exact ⟨fun hn => by have := h.on.lt _ hn; omega, by simp⟩
    · exact (h.alloc _).bat p hp

theorem St.nil (h : St B w0 W L st bs) : St B w0 W L st ((.slice none 0 0, []) :: bs) :=
  ⟨h.below, h.size, h.M, h.on, fun p hp => by
    rcases List.mem_cons.1 hp with rfl | hp
    · exact ⟨Reads.nil _ _, by simp [blkOf]⟩
    · exact h.bat p hp⟩

theorem st_step {st' : Sl} (h : St B w0 W L st bs) (hu : Upd L.M W W') (hon : On W' L st' []) : St B w0 W' L st' bs where
  below := h.below.trans (hu.belowB h.size h.M)
  size := Nat.le_trans h.size hu.size
  M := h.M
  on := hon
  bat := fun p hp => ⟨(h.bat p hp).1.upd hu (fun b hb => ((h.bat p hp).2 b hb).1), fun b hb => ⟨((h.bat p hp).2 b hb).1, Nat.lt_of_lt_of_le ((h.bat p hp).2 b hb).2 hu.size⟩⟩

theorem st_new (f : Nat) (h1 : 1 ≤ f) (h2 : f ≤ 4) (w0 W : World) (B : Nat) (hb : Below B w0 W) (hB : B ≤ W.heap.size) :
    Calls Try.prog 18 #[.int .i64 f] W fun e w' => ∃ L : Loc, e = .returned (.tuple #[L.ptr, .int .i64 0]) ∧ L.f = f ∧ St B w0 w' L (emptySl f) [] := by
  refine (on_new f h1 h2 W).mono ?_
  rintro e w' ⟨L, he, hf, hu, hM, hon⟩
  exact ⟨L, he, hf, hb.trans (hu.below.mono hB), Nat.le_trans hB hu.size, fun k hk => Nat.le_trans hB (hM k hk), hon [] (by simp), by simp⟩

theorem st_pre (h : St B w0 W L st bs) (v : Value) (rs : List Rq) (hb : (v, rs) ∈ bs) (hn : rs.length ≤ 100000) :
    Calls Try.prog 20 #[L.ptr, v] W fun e w' => e = .returned (.bool (!st.has)) ∧ St B w0 w' L (if st.has then st else { st with has := true, batch := rs }) bs := by
  refine (on_pre h.on v rs (h.bat _ hb).1 hn).mono ?_
  rintro e w' ⟨he, hu, hon⟩
  exact ⟨he, st_step h hu hon⟩

theorem st_vote (h : St B w0 W L st bs) (kind node sl : Int) (v : Value) (rs : List Rq) (hb : (v, rs) ∈ bs) (hn : rs.length ≤ 100000) :
    Calls Try.prog 22 #[L.ptr, .int .i64 kind, .int .i64 node, .int .i64 sl, v] W fun e w' => e = .returned (.bool (canVote st kind node)) ∧ St B w0 w' L (voteS st kind node sl rs) bs := by
  refine (on_vote h.on kind node sl v rs (h.bat _ hb).1 hn).mono ?_
  rintro e w' ⟨he, hu, hon⟩
  exact ⟨he, st_step h hu hon⟩

theorem st_voted (h : St B w0 W L st bs) (kind node : Int) :
    Calls Try.prog 28 #[L.ptr, .int .i64 kind, .int .i64 node] W fun e w' => e = .returned (.bool (votedB (listOf st kind) node)) ∧ W = w' := on_voted h.on kind node

theorem st_chosen (h : St B w0 W L st bs) :
    Calls Try.prog 29 #[L.ptr] W fun e w' => ∃ u, e = .returned (.tuple #[u, .bool st.has]) ∧ St B w0 w' L st bs ∧ Bat w' u (chosenS st) := by
  refine (on_chosen h.on).mono ?_
  rintro e w' ⟨u, he, hu, hon, hb, hn⟩
  exact ⟨u, he, h.upd0 hu, hb⟩

theorem st_prepared (h : St B w0 W L st bs) :
    Calls Try.prog 23 #[L.ptr] W fun e w' => ∃ u, e = .returned (.tuple #[u, .bool (preparedS L.f st).isSome]) ∧ St B w0 w' L st bs ∧ Vts w' u ((preparedS L.f st).getD []) := by
  refine (on_prepared h.on).mono ?_
  rintro e w' ⟨u, he, hu, hon, hb, hn⟩
  exact ⟨u, he, h.upd0 hu, hb⟩

theorem st_committed (h : St B w0 W L st bs) :
    Calls Try.prog 24 #[L.ptr] W fun e w' => ∃ v u, e = .returned (.tuple #[v, u, .bool (committedS L.f st).isSome]) ∧ St B w0 w' L st bs ∧ Bat w' v (batchOf (committedS L.f st)) ∧ Vts w' u (votesOf (committedS L.f st)) := by
  refine (on_committed h.on).mono ?_
  rintro e w' ⟨v, u, he, hu, hon, q1, q2, _, _⟩
  exact ⟨v, u, he, h.upd0 hu, q1, q2⟩

theorem st_reset (h : St B w0 W L st bs) :
    Calls Try.prog 33 #[L.ptr] W fun e w' => ∃ bp bc, e = .returned (.tuple #[]) ∧ St B w0 w' ⟨L.s, bp, bc, 3 * L.f + 1, 3 * L.f + 1, L.f⟩ (emptySl L.f) bs := by
  refine (on_reset h.on).mono ?_
  rintro e w' ⟨bp, bc, he, hu, g1, g2, hon⟩
  have hs : L.s ∈ L.M := by simp [Loc.M]
  refine ⟨bp, bc, he, h.below.trans (hu.belowB h.size (by intro k hk; simp at hk; subst hk; exact h.M _ hs)), Nat.le_trans h.size hu.size, ?_, hon, fun p hp => ⟨(h.bat p hp).1.upd hu (fun b hb hn => ?_), fun b hb => ⟨fun hn => ?_, Nat.lt_of_lt_of_le ((h.bat p hp).2 b hb).2 hu.size⟩⟩⟩
  · intro k hk
    have := h.size
    have hs' := h.M _ hs
    simp [Loc.M] at hk
    omega
  · simp at hn; subst hn; exact ((h.bat p hp).2 _ hb).1 hs
  · simp [Loc.M] at hn
    obtain ⟨hb', hlt⟩ := (h.bat p hp).2 b hb
    rcases hn with rfl | rfl | rfl
    · exact hb' hs
    · omega
    · omega

end
end Go.Proofs.Ytdeadekeffficaa

/- append([]T(nil), l...): one law for every l. No program. -/
namespace Go.Heap
open Go Go.RowKit

theorem wpList_fresh {P : Program} {w : World} {ops : Array Oper} {rest : List Oper} {o : Oper} {a : Act} {Q : Exit → Act → World → Prop} (hgd : o.guard = none) (x : Operand) (t : TypeId)
    (ho : o.op = .call { callee := .builtin .append, args := #[.const (.slice none 0 0), x], argTypes := #[t, t] })
    (e : TypeId) (i : TypeInfo) (z : Value) (size bytes : Nat) (ht : P.underlying t = some (.slice e)) (hi : P.info? e = some i) (hz : i.zero = some z)
    (hsize : i.size = size) (hby : i.bytes = bytes) (hzs : z.cells.size = size) (hsz : 0 < size)
    (v : Value) (n : Nat) (xs : List Value) (hx : a.eval x = v) (hr : Reads w v size n xs) (h1 : ∀ u ∈ xs, u.oneCell' = true) (hbytes : n * bytes ≤ 140737488355328)
    (h : ∀ v' w', w'.ownsRow w.heap.size e size v' n xs → Upd [] w w' → wpList P ops Q rest (a.put o.dst v') w') : wpList P ops Q (o :: rest) a w := by
  obtain ⟨ao, cap, rfl, hl1, hl2, hl3, hl4, hl5⟩ := hr
  cases ao with
  | none =>
    obtain ⟨rfl, rfl⟩ := hl4 rfl
    have : xs = [] := List.eq_nil_of_length_eq_zero (by simpa using hl3)
    subst this
    exact wpList_append_own_none hgd (.const (.slice none 0 0)) x t ho w.heap.size e i size ht hi _ 0 [] rfl (World.ownsRow_nil _ _ _ _) hx (h _ _ (World.ownsRow_nil _ _ _ _) (Upd.refl _ _))
  | some ad =>
    have hnews : ∀ j u, xs[j]? = some u → w.cell? (ad.add j) = some u := by
      intro j u hj
      have hlt := (List.getElem?_eq_some_iff.1 hj).1
      have hn : 0 < n := by
        rcases Nat.eq_zero_or_pos n with h0 | h0
        · subst h0; omega
        · exact h0
      obtain ⟨b, o, hab, hb, hc⟩ := hl5 hn
      simp only [Option.some.injEq] at hab
      subst hab
      have : (⟨b, o, none⟩ : Addr).add j = ⟨b, o + j, none⟩ := by unfold Addr.add; split <;> simp_all
      rw [this, hc j (by omega)]
      exact hj
    refine wpList_append_own w hgd (.const (.slice none 0 0)) x t ho w.heap.size e i z size bytes ht hi hz hsize hby hzs hsz (.slice none 0 0) 0 [] rfl (World.ownsRow_nil _ _ _ _) ad n cap xs hx hl3 hnews h1 (by rw [Nat.zero_add]; omega) (by rw [Nat.zero_add]; exact hbytes) (Nat.le_refl _) ?_
    intro v' w' hown hgrow _
    rw [Nat.zero_add, List.nil_append] at hown
    exact h v' w' hown ((Upd.refl _ _).grown hgrow (by intro k hk; simp [Value.ownBlock] at hk))

end Go.Heap

/- wp_text, where a slot is written that an earlier 'move' has looked at ('x = append(x, ..)'). -/
namespace Go.Mix
open Go

/-- It only computes, whatever the frame holds. -/
def calm (o : Oper) : Bool :=
  match o.op with
  | .move _ | .assign _ | .extract _ _ | .pick _ _ _ | .field _ _ _ | .indexAddr _ _ _ | .index _ _ _ | .slice _ _ _ _ _ | .makeInterface _ _ => true
  | _ => false

/-- No operation writes a slot that this or an earlier one looks at, but where the earlier one only computes whatever it sees. -/
def stillB2 (ops : Array Oper) : Bool :=
  (List.range ops.size).all fun i => (List.range ops.size).all fun j => decide (j < i) || match ops[i]?, ops[j]? with
    | some oi, some oj => calm oi || match oj.dst with
      | some d => !(oi.looksAt ops).contains d
      | none => true
    | _, _ => true

section
variable {P : Program} {ops : Array Oper} {Q : Exit → Act → World → Prop}

theorem calm_pure {a : Act} {o : Oper} (h : calm o = true) : pureOp P a o = true := by
  obtain ⟨dst, op, type, pos, after, guard⟩ := o
  unfold calm at h
  unfold pureOp
  dsimp only at h ⊢
  split at h <;> first | rfl | cases h

theorem stillB2_spec (h : stillB2 ops = true) {i j : Nat} {oi oj : Oper} (hc : calm oi = false) (hi : ops[i]? = some oi) (hj : ops[j]? = some oj) (hij : i ≤ j) : ∀ t ∈ oi.looksAt ops, oj.dst ≠ some t := by
  intro t ht e
  simp only [stillB2, List.all_eq_true, List.mem_range] at h
  have := h i (Array.getElem?_eq_some_iff.1 hi).1 j (Array.getElem?_eq_some_iff.1 hj).1
  rw [hi, hj] at this
  simp only [e, hc, Bool.false_or, Bool.or_eq_true, decide_eq_true_eq, Bool.not_eq_true', List.contains_eq_mem, decide_eq_false_iff_not] at this
  rcases this with h | h
  · omega
  · exact h ht

theorem text_mix2 (hst : stillB2 ops = true) : ∀ (l : List Oper) (k : Nat) (a : Act) (w : World), ops.toList.drop k = l → wpList P ops (Fin P ops Q) l a w → mix P ops (fun _ => True) Q (autoC ops) (List.range' k l.length) a w := by
  intro l
  induction l with
  | nil => intro k a w _ h; exact h.2
  | cons o l ih =>
    intro k a w hl h
    have hk : ops[k]? = some o := by
      have : (ops.toList.drop k)[0]? = some o := by rw [hl]; rfl
      rw [List.getElem?_drop, Array.getElem?_toList] at this
      simpa using this
    have hl' : ops.toList.drop (k + 1) = l := by
      rw [← List.drop_drop, hl]; rfl
    have hlater : ∀ o' ∈ o :: l, ∃ j, k ≤ j ∧ ops[j]? = some o' := by
      intro o' ho'
      rw [← hl] at ho'
      obtain ⟨j, hj⟩ := List.getElem?_of_mem ho'
      rw [List.getElem?_drop, Array.getElem?_toList] at hj
      exact ⟨k + j, by omega, hj⟩
    have hout := list_out _ _ _ h
    have h := wpList_cons_fin h
    rw [List.length_cons, List.range'_succ]
    refine ⟨o, hk, ?_⟩
    have hc : autoC ops k = clsOf o := by simp [autoC, hk]
    rw [hc]
    split at h
    · rename_i hw
      by_cases hcl : clsOf o ≤ 1
      · unfold stepMix
        rw [if_pos hcl]
        -- what it runs to
        have hrun : ∃ v, (∀ w', (if clsOf o = 0 then True else w' = w) → (execOp a.eval o).run P w' = .ok (.value v) w') ∧ wpList P ops (Fin P ops Q) l (a.put o.dst v) w := by
          unfold Oper.wp at h
          cases hr : (execOp a.eval o).run P w with
          | halt x w' => rw [hr] at h; cases x <;> simp only [Oper.upon] at h; exact h.elim
          | ok n w' =>
            by_cases hc0 : clsOf o = 0
            · have hpure : pureOp P a o = true := by
               by_cases hcm : calm o = true
               · exact calm_pure hcm
               obtain ⟨a', w'', hv, _, hsame⟩ := hout
               have hlook : ∀ t ∈ o.looksAt ops, a'.tmps[t]? = a.tmps[t]? := fun t ht => hsame t fun o' ho' => by
                 obtain ⟨j, hj, hoj⟩ := hlater o' ho'
                 exact stillB2_spec hst (by simpa using hcm) hk hoj hj t ht
               refine pureOp_of (eval_of hlook) ?_
               simp only [okVals, List.all_eq_true, List.mem_range] at hv
               have h1 := hv k (Array.getElem?_eq_some_iff.1 hk).1
               rw [hk] at h1
               simp only [hc0, bne_self_eq_false, Bool.false_or, Bool.or_eq_true, Bool.not_eq_true', wanted_of hlook, hw] at h1
               rcases h1 with h1 | h1
               · cases h1
               · exact h1
              obtain ⟨rfl, v, rfl, hall⟩ := pure_ind hpure _ _ _ hr
              rw [hr] at h
              exact ⟨v, fun w2 _ => hall w2, h⟩
            · have hload : ∃ t x, o.op = .load t x := by
                have h1 : clsOf o = 1 := by omega
                unfold clsOf at h1
                split at h1 <;> first | (rename_i heq; exact ⟨_, _, heq⟩) | omega
              obtain ⟨t, x, hop⟩ := hload
              obtain ⟨rfl, v, rfl⟩ := load_value hop hr
              rw [hr] at h
              refine ⟨v, fun w2 h2 => ?_, h⟩
              rw [if_neg hc0] at h2
              subst h2
              exact hr
        obtain ⟨v, h1, h2⟩ := hrun
        exact ⟨v, .inl ⟨hw, h1⟩, ih (k + 1) _ _ hl' h2⟩
      · unfold stepMix
        rw [if_neg hcl]
        unfold Loud
        rw [if_pos hw]
        exact Oper.wp_post (Q := NoQ) (fun a' w' h' => ⟨trivial, ih (k + 1) _ _ hl' h'⟩) h
    · rename_i hw
      have hw' : Region.wanted o (yielded ops a.tmps) = false := by simpa using hw
      by_cases hcl : clsOf o ≤ 1
      · unfold stepMix
        rw [if_pos hcl]
        exact ⟨undef, .inr ⟨hw', rfl⟩, ih (k + 1) _ _ hl' h⟩
      · unfold stepMix
        rw [if_neg hcl]
        unfold Loud
        rw [if_neg (by simp [hw'])]
        exact ⟨trivial, ih (k + 1) _ _ hl' h⟩

theorem wp_region_text2 {id : Nat} {a : Act} {w : World} (hm : P.follows .mixedOrders = true) (hok : (okRegion ops (autoC ops) && stillB2 ops) = true)
    (h : wpList P ops (Fin P ops Q) ops.toList a w.drew) : (Code.region id ops true).wp P Q a w := by
  simp only [Bool.and_eq_true] at hok
  refine wp_region_mix (fun _ => True) (autoC ops) hm hok.1 trivial ?_
  have := text_mix2 hok.2 ops.toList 0 a w.drew rfl h
  rw [Array.length_toList, ← List.range_eq_range'] at this
  exact this

/-- The rule, the operations written out. -/
theorem wp_text2 {id : Nat} {l : List Oper} {a : Act} {w : World} (hm : P.follows .mixedOrders = true) (hok : (okRegion l.toArray (autoC l.toArray) && stillB2 l.toArray) = true)
    (h : wpList P l.toArray (Fin P l.toArray Q) l a w.drew) : (Code.region id l.toArray true).wp P Q a w := wp_region_text2 hm hok h

end
end Go.Mix

/- inst: fresh, cert. -/
namespace Go.Proofs.Ytdeadekeffficaa
open Go.RowKit Go.Heap

abbrev ctO (view inst seq : Int) (vb vv : Value) : Obj := .cells #[.int .i64 view, .int .i64 inst, .int .i64 seq, vb, vv] 70 (0, 0)

theorem ct_cells {w : World} {b : Nat} {view inst seq : Int} {vb vv : Value} (h : w.heap[b]? = some (ctO view inst seq vb vv)) : w.cell? ⟨b, 0, none⟩ = some (.int .i64 view) ∧ w.cell? ⟨b, 1, none⟩ = some (.int .i64 inst) ∧ w.cell? ⟨b, 2, none⟩ = some (.int .i64 seq) ∧
    w.cell? ⟨b, 3, none⟩ = some vb ∧ w.cell? ⟨b, 4, none⟩ = some vv ∧ b < w.heap.size ∧ ∀ o, w.frozen? ⟨b, o, none⟩ = false :=
  ⟨by rw [block_cell h]; rfl, by rw [block_cell h]; rfl, by rw [block_cell h]; rfl, by rw [block_cell h]; rfl, by rw [block_cell h]; rfl, block_lt h, block_frozen h⟩

/-- What fresh gives: the same in new memory. -/
def FreshP (w : World) (c : Ct) (e : Ending) (w' : World) : Prop :=
  ∃ c' : Ct, e = .returned (ctAgg c') ∧ c'.cp = c.cp ∧ Upd [] w w' ∧ Bat w' c'.vb c'.rs ∧ Vts w' c'.vv c'.vs ∧ (∀ k ∈ blkOf c'.vb, w.heap.size ≤ k) ∧ ∀ k ∈ blkOf c'.vv, w.heap.size ≤ k

theorem vsCells_one (l : Vs) : ∀ u ∈ vsCells l, u.oneCell' = true := by
  intro u hu
  simp only [vsCells, List.mem_flatMap] at hu
  obtain ⟨r, _, h⟩ := hu
  simp only [List.mem_cons, List.not_mem_nil, or_false] at h
  rcases h with rfl | rfl <;> rfl

theorem row_shape {w : World} {B E sz n : Nat} {v : Value} {xs : List Value} (h : w.ownsRow B E sz v n xs) : ∃ ao cap, v = .slice ao n cap := by
  rcases h.2 with ⟨rfl, rfl⟩ | ⟨g, cap, cur, rfl, _⟩
  · exact ⟨none, 0, rfl⟩
  · exact ⟨_, cap, rfl⟩
theorem owns_reads {w : World} {B E sz n : Nat} {v : Value} {xs : List Value} (h : w.ownsRow B E sz v n xs) : Reads w v sz n xs := by
  rcases h.2 with ⟨rfl, rfl⟩ | ⟨g, cap, cur, rfl, _⟩
  · have : xs = [] := List.eq_nil_of_length_eq_zero (by simpa using h.1)
    subst this
    exact Reads.nil _ _
  · exact Reads.of_own h
theorem owns_new {w : World} {B E sz n : Nat} {v : Value} {xs : List Value} (h : w.ownsRow B E sz v n xs) : ∀ k ∈ blkOf v, B ≤ k ∧ k < w.heap.size := by
  intro k hk
  rcases h.2 with ⟨rfl, rfl⟩ | ⟨g, cap, cur, rfl, hb, hg, _⟩
  · simp [blkOf] at hk
  · simp [blkOf] at hk; subst hk; exact ⟨hb, block_lt hg⟩

set_option maxHeartbeats 1000000 in
theorem fresh_ct (c : Ct) (w : World) (hb : Bat w c.vb c.rs) (hbn : c.rs.length ≤ 100000) (hv : Vts w c.vv c.vs) (hvn : c.vs.length ≤ 100000) :
    Calls Try.prog 67 #[ctAgg c] w (FreshP w c) := by
  obtain ⟨i0, hi, hz0, hz1, hz2⟩ := info_parts Try.infoReq
  obtain ⟨j0, hj, hy0, hy1, hy2⟩ := info_parts Try.infoVote
  obtain ⟨view, inst, seq, vb, vv, rs, vs⟩ := c
  simp only at hb hbn hv hvn
  obtain ⟨ao, cap, rfl⟩ := bat_form hb
  obtain ⟨co, cav, rfl⟩ := vts_form hv
  have h1 := (((((Own.start (Below.refl w.heap.size w) (Nat.le_refl _)).red hb (by simp [Ms])).red hv (by simp [Ms, redR, imm])).box (ctO view inst seq (.slice ao rs.length cap) (.slice co vs.length cav))).box (ctO 0 0 0 (.slice none 0 0) (.slice none 0 0)))
  simp only [hs_alloc] at h1
  have H1 := Lib.hid h1
  clear hb hv h1
  go_enter Try.func67, Try.ntmps67
  go_upto_region 1 with fail
  generalize (w.alloc (ctO view inst seq (.slice ao rs.length cap) (.slice co vs.length cav))).alloc (ctO 0 0 0 (.slice none 0 0) (.slice none 0 0)) = w1 at *
  obtain ⟨f0, f1, f2, f3, f4, fl, fz⟩ := ct_cells H1.out.drop.blk_out
  clear fz
  go_wp2_with (at_builtin; refine wpList_fresh rfl (.tmp 4) 33 rfl 32 i0 (.agg #[.int .i64 0, .int .i64 0, .int .i64 0, .int .i64 0, .int .i64 0, .int .i64 0]) 6 48 Try.underlying33 hi hz0 hz1 hz2 rfl (by decide) _ _ _ rfl (redR_out H1.out.drop.drop.drop.head) (rqsCells_one rs) (by omega) ?_)
  intro v2 w2 hown2 hu2
  obtain ⟨ao2, cap2, rfl⟩ := row_shape hown2
  have H2 := Lib.hid ((H1.out.row1 hu2 hown2).swap.rot)
  clear f0 f1 f2 f3 f4 fl hown2 hu2 H1
  obtain ⟨f0, f1, f2, f3, f4, fl, fz⟩ := ct_cells H2.out.blk_out
  have fz3 := fz 3
  clear fz
  go_upto_region 2 with fail
  have H3 := Lib.hid (H2.out.store 3 (.slice ao2 rs.length cap2))
  generalize w2.setCell ⟨w.heap.size, 3, none⟩ (.slice ao2 rs.length cap2) = w3 at *
  clear f0 f1 f2 f3 f4 fl fz3 H2
  obtain ⟨f0, f1, f2, f3, f4, fl, fz⟩ := ct_cells H3.out.blk_out
  clear fz
  go_wp2_with (at_builtin; refine wpList_fresh rfl (.tmp 8) 37 rfl 44 j0 (.agg #[.int .i64 0, .int .i64 0]) 2 16 Try.underlying37 hj hy0 hy1 hy2 rfl (by decide) _ _ _ rfl (redR_out H3.out.drop.drop.drop.head) (vsCells_one vs) (by omega) ?_)
  intro v4 w4 hown4 hu4
  obtain ⟨ao4, cap4, rfl⟩ := row_shape hown4
  have H4 := Lib.hid ((H3.out.row1 hu4 hown4).swap)
  clear f0 f1 f2 f3 f4 fl hown4 hu4 H3
  obtain ⟨f0, f1, f2, f3, f4, fl, fz⟩ := ct_cells H4.out.blk_out
  have fz4 := fz 4
  clear fz
  go_upto_region 3 with fail
  have H5 := Lib.hid (H4.out.store 4 (.slice ao4 vs.length cap4))
  generalize w4.setCell ⟨w.heap.size, 4, none⟩ (.slice ao4 vs.length cap4) = w5 at *
  clear f0 f1 f2 f3 f4 fl fz4 H4
  obtain ⟨f0, f1, f2, f3, f4, fl, fz⟩ := ct_cells H5.out.blk_out
  obtain ⟨g0, g1, g2, g3, g4, gl, gz⟩ := ct_cells H5.out.drop.drop.blk_out
  have gz0 := gz 0
  have gz1 := gz 1
  have gz2 := gz 2
  have gz3 := gz 3
  have gz4 := gz 4
  clear fz gz
  go_wp2_with fail
  have H6 := Lib.hid ((((((H5.out.rot.store 0 (.int .i64 view)).store 1 (.int .i64 inst)).store 2 (.int .i64 seq)).store 3 (.slice ao2 rs.length cap2)).store 4 (.slice ao4 vs.length cap4)))
  generalize ((((w5.setCell ⟨w.heap.size + 1, 0, none⟩ (.int .i64 view)).setCell ⟨w.heap.size + 1, 1, none⟩ (.int .i64 inst)).setCell ⟨w.heap.size + 1, 2, none⟩ (.int .i64 seq)).setCell ⟨w.heap.size + 1, 3, none⟩ (.slice ao2 rs.length cap2)).setCell ⟨w.heap.size + 1, 4, none⟩ (.slice ao4 vs.length cap4) = w6 at *
  clear f0 f1 f2 f3 f4 fl g0 g1 g2 g3 g4 gl gz0 gz1 gz2 gz3 gz4 H5
  obtain ⟨f0, f1, f2, f3, f4, fl, fz⟩ := ct_cells H6.out.blk_out
  have r1 := ownR_owns H6.out.drop.drop.head
  have r2 := ownR_owns H6.out.drop.drop.drop.head
  refine bodyPost_ret (v := ctAgg ⟨view, inst, seq, .slice ao2 rs.length cap2, .slice ao4 vs.length cap4, rs, vs⟩) (by simp [results, Try.results67, go_sem, f0, f1, f2, f3, f4]) rfl ⟨⟨view, inst, seq, .slice ao2 rs.length cap2, .slice ao4 vs.length cap4, rs, vs⟩, rfl, rfl, Upd.of_below H6.out.below, owns_reads r2, owns_reads r1, ?_, ?_⟩
  · exact (H6.out.drop.drop.drop.all _ List.mem_cons_self).2
  · exact (H6.out.drop.drop.all _ List.mem_cons_self).2

set_option maxHeartbeats 1000000 in
set_option maxRecDepth 100000 in
theorem cert_any (i : Nat) (f : Nat) (num ahead view : Int) (on : Bool) (v : Value) (seq : Int) (ao : Option Addr) (n cap : Nat) (co : Option Addr) (m cav : Nat) (w : World) (h : w.heap[i]? = some (insO f num ahead view on v)) :
    Calls Try.prog 66 #[.pointer (some ⟨i, 0, none⟩), .int .i64 seq, .slice ao n cap, .slice co m cav] w fun e w' => e = .returned (.agg #[.int .i64 view, .int .i64 num, .int .i64 seq, .slice ao n cap, .slice co m cav]) ∧ Upd [] w w' := by
  have hl := block_lt h
  have h1 : w.cell? ⟨i, 1, none⟩ = some (.int .i64 num) := by rw [block_cell h]; rfl
  have h3 : w.cell? ⟨i, 3, none⟩ = some (.int .i64 view) := by rw [block_cell h]; rfl
  clear h
  go_enter Try.func66, Try.ntmps66
  go_wp2_with fail
  refine Mix.wp_text2 (by kernel_rfl) (by kernel_rfl) ?_
  go_wp2_with fail
  refine ⟨by rfl, ?_⟩
  go_wp2_with fail
  exact bodyPost_ret (v := .agg #[.int .i64 view, .int .i64 num, .int .i64 seq, .slice ao n cap, .slice co m cav]) (by simp [results, Try.results66, go_sem]) rfl ⟨rfl, ((Upd.refl _ _).alloc _).drew⟩

end Go.Proofs.Ytdeadekeffficaa

/- inst: a place is written; Commits. -/
namespace Go.Proofs.Ytdeadekeffficaa
open Go.RowKit Go.Heap

theorem put_step {l : List Pm} {k : Nat} (hk : k < l.length) (x y : Pm) (r : Nat) (v : Value) (hr : r < 14) (h : pmCells y = (pmCells x).set r v) : ((l.set k x).flatMap pmCells).set (k * 14 + r) v = (l.set k y).flatMap pmCells := by
  rw [flat_set (cells := pmCells) (sz := 14) (fun _ => rfl) (l.set k x) k r x y v (List.getElem?_set_self hk) hr h, List.set_set]

theorem put_done (l : List Pm) (k : Nat) (hk : k < l.length) (c : Ct) :
    ((((((l.flatMap pmCells).set (k * 14 + 8) (.bool true)).set (k * 14 + 9) (.int .i64 c.view)).set (k * 14 + 10) (.int .i64 c.inst)).set (k * 14 + 11) (.int .i64 c.seq)).set (k * 14 + 12) c.vb).set (k * 14 + 13) c.vv =
      (l.set k { l[k] with done := true, dw := c }).flatMap pmCells := by
  have e : l.flatMap pmCells = (l.set k l[k]).flatMap pmCells := by rw [List.set_getElem_self]
  rw [e]
  generalize l[k] = p
  obtain ⟨lc, sl, told, has, ct, done, ⟨a, b, d, e, f, g, h⟩⟩ := p
  obtain ⟨a', b', d', e', f', g', h'⟩ := c
  rw [put_step hk ⟨lc, sl, told, has, ct, done, ⟨a, b, d, e, f, g, h⟩⟩ ⟨lc, sl, told, has, ct, true, ⟨a, b, d, e, f, g, h⟩⟩ 8 (.bool true) (by omega) rfl, put_step hk ⟨lc, sl, told, has, ct, true, ⟨a, b, d, e, f, g, h⟩⟩ ⟨lc, sl, told, has, ct, true, ⟨a', b, d, e, f, g, h⟩⟩ 9 (.int .i64 a') (by omega) rfl, put_step hk ⟨lc, sl, told, has, ct, true, ⟨a', b, d, e, f, g, h⟩⟩ ⟨lc, sl, told, has, ct, true, ⟨a', b', d, e, f, g, h⟩⟩ 10 (.int .i64 b') (by omega) rfl, put_step hk ⟨lc, sl, told, has, ct, true, ⟨a', b', d, e, f, g, h⟩⟩ ⟨lc, sl, told, has, ct, true, ⟨a', b', d', e, f, g, h⟩⟩ 11 (.int .i64 d') (by omega) rfl, put_step hk ⟨lc, sl, told, has, ct, true, ⟨a', b', d', e, f, g, h⟩⟩ ⟨lc, sl, told, has, ct, true, ⟨a', b', d', e', f, g, h⟩⟩ 12 e' (by omega) rfl, put_step hk ⟨lc, sl, told, has, ct, true, ⟨a', b', d', e', f, g, h⟩⟩ ⟨lc, sl, told, has, ct, true, ⟨a', b', d', e', f', g', h'⟩⟩ 13 f' (by omega) rfl]

theorem put_cert (l : List Pm) (k : Nat) (hk : k < l.length) (c : Ct) :
    (((((((l.flatMap pmCells).set (k * 14 + 1) (.bool true)).set (k * 14 + 2) (.bool true)).set (k * 14 + 3) (.int .i64 c.view)).set (k * 14 + 4) (.int .i64 c.inst)).set (k * 14 + 5) (.int .i64 c.seq)).set (k * 14 + 6) c.vb).set (k * 14 + 7) c.vv =
      (l.set k { l[k] with told := true, has := true, ct := c }).flatMap pmCells := by
  have e : l.flatMap pmCells = (l.set k l[k]).flatMap pmCells := by rw [List.set_getElem_self]
  rw [e]
  generalize l[k] = p
  obtain ⟨lc, sl, told, has, ⟨a, b, d, e, f, g, h⟩, done, dw⟩ := p
  obtain ⟨a', b', d', e', f', g', h'⟩ := c
  rw [put_step hk ⟨lc, sl, told, has, ⟨a, b, d, e, f, g, h⟩, done, dw⟩ ⟨lc, sl, true, has, ⟨a, b, d, e, f, g, h⟩, done, dw⟩ 1 (.bool true) (by omega) rfl, put_step hk ⟨lc, sl, true, has, ⟨a, b, d, e, f, g, h⟩, done, dw⟩ ⟨lc, sl, true, true, ⟨a, b, d, e, f, g, h⟩, done, dw⟩ 2 (.bool true) (by omega) rfl, put_step hk ⟨lc, sl, true, true, ⟨a, b, d, e, f, g, h⟩, done, dw⟩ ⟨lc, sl, true, true, ⟨a', b, d, e, f, g, h⟩, done, dw⟩ 3 (.int .i64 a') (by omega) rfl, put_step hk ⟨lc, sl, true, true, ⟨a', b, d, e, f, g, h⟩, done, dw⟩ ⟨lc, sl, true, true, ⟨a', b', d, e, f, g, h⟩, done, dw⟩ 4 (.int .i64 b') (by omega) rfl, put_step hk ⟨lc, sl, true, true, ⟨a', b', d, e, f, g, h⟩, done, dw⟩ ⟨lc, sl, true, true, ⟨a', b', d', e, f, g, h⟩, done, dw⟩ 5 (.int .i64 d') (by omega) rfl, put_step hk ⟨lc, sl, true, true, ⟨a', b', d', e, f, g, h⟩, done, dw⟩ ⟨lc, sl, true, true, ⟨a', b', d', e', f, g, h⟩, done, dw⟩ 6 e' (by omega) rfl, put_step hk ⟨lc, sl, true, true, ⟨a', b', d', e', f, g, h⟩, done, dw⟩ ⟨lc, sl, true, true, ⟨a', b', d', e', f', g', h'⟩, done, dw⟩ 7 f' (by omega) rfl]

theorem put_done' (l : List Pm) (k : Nat) (hk : k < l.length) (c : Ct) :
    ((((((l.flatMap pmCells).set (k * 14 + 8) (.bool true)).set (k * 14 + 9) (.int .i64 c.view)).set (k * 14 + 9 + 1) (.int .i64 c.inst)).set (k * 14 + 9 + 2) (.int .i64 c.seq)).set (k * 14 + 9 + 3) c.vb).set (k * 14 + 9 + 4) c.vv =
      (l.set k { l[k] with done := true, dw := c }).flatMap pmCells := put_done l k hk c
theorem put_cert' (l : List Pm) (k : Nat) (hk : k < l.length) (c : Ct) :
    (((((((l.flatMap pmCells).set (k * 14 + 1) (.bool true)).set (k * 14 + 2) (.bool true)).set (k * 14 + 3) (.int .i64 c.view)).set (k * 14 + 3 + 1) (.int .i64 c.inst)).set (k * 14 + 3 + 2) (.int .i64 c.seq)).set (k * 14 + 3 + 3) c.vb).set (k * 14 + 3 + 4) c.vv =
      (l.set k { l[k] with told := true, has := true, ct := c }).flatMap pmCells := put_cert l k hk c

section
variable {B : Nat} {w0 W W' : World} {ss rs : List Res} {x : Ins} {v1 v2 : Value} {l : List Rq} {vs : Vs}

/-- A certificate comes into a place. -/
theorem oi_place {k : Nat} {p : Pm} {c : Ct} (h : Own B w0 W (redR c.vv 2 c.vs.length (vsCells c.vs) :: redR c.vb 6 c.rs.length (rqsCells c.rs) :: ([blk x.i x.o, segR x.b 122 ((x.l.set k p).flatMap pmCells), certsR x] ++ (x.l.map pmR ++ ss))))
    (hk : k < x.l.length) (hl : p.lc = x.l[k].lc) (hs : p.sl = x.l[k].sl) (hn : c.rs.length ≤ 100000) (hm : c.vs.length ≤ 100000) (hc : (p.ct = c ∧ p.dw = x.l[k].dw) ∨ (p.ct = x.l[k].ct ∧ p.dw = c)) : OwnI B w0 W (x.sl k p) ss := by
  have hmap : (x.l.set k p).map pmR = x.l.map pmR := by
    rw [List.map_set, show pmR p = pmR x.l[k] by simp [pmR, hl, hs]]
    conv => lhs; arg 3; rw [← List.getElem_map (f := pmR) (h := by simpa using hk)]
    exact List.set_getElem_self _
  have h1 : Own B w0 W (certsR x :: redR c.vv 2 c.vs.length (vsCells c.vs) :: redR c.vb 6 c.rs.length (rqsCells c.rs) :: blk x.i x.o :: segR x.b 122 ((x.l.set k p).flatMap pmCells) :: (x.l.map pmR ++ ss)) := h.perm (List.perm_middle (l₁ := [_, _, _, _]))
  have h2 := h1.alter (r' := certsR (x.sl k p)) (by
    obtain ⟨D, ⟨⟨q1, q2⟩, q3⟩, q4, q5⟩ := h1.head
    obtain ⟨D1, ⟨v1, v2⟩, v3, _⟩ := (h1.all (redR c.vv 2 c.vs.length (vsCells c.vs)) (List.mem_cons_of_mem _ List.mem_cons_self)).1
    obtain ⟨D2, ⟨b1, b2⟩, b3, _⟩ := (h1.all (redR c.vb 6 c.rs.length (rqsCells c.rs)) (List.mem_cons_of_mem _ (List.mem_cons_of_mem _ List.mem_cons_self))).1
    have hnew : CtIn W c (D ++ (D1 ++ D2)) := ⟨b1.mono (by simp +contextual), hn, v1.mono (by simp +contextual), hm⟩
    have hold : ∀ p' ∈ x.l, CtIn W p'.ct (D ++ (D1 ++ D2)) ∧ CtIn W p'.dw (D ++ (D1 ++ D2)) := fun p' hp' => ⟨(q2 p' hp').1.mono (by simp +contextual), (q2 p' hp').2.mono (by simp +contextual)⟩
    refine ⟨D ++ (D1 ++ D2), ⟨⟨⟨by simpa using q1.n, q1.f1, q1.f2, fun p' hp' => ?_, q1.c1, q1.a1, q1.a2, q1.vw⟩, fun p' hp' => ?_⟩, fun k hk => ?_⟩, fun k hk => ?_, q5⟩
    · rcases List.mem_or_eq_of_mem_set hp' with hp' | rfl
      · exact q1.lf p' hp'
      · rw [hl]; exact q1.lf _ (by simp)
    · rcases List.mem_or_eq_of_mem_set hp' with hp' | rfl
      · exact hold p' hp'
      · rcases hc with ⟨e1, e2⟩ | ⟨e1, e2⟩
        · rw [e1, e2]; exact ⟨hnew, (hold _ (by simp)).2⟩
        · rw [e1, e2]; exact ⟨(hold _ (by simp)).1, hnew⟩
    · rcases List.mem_append.1 hk with hk | hk
      · exact q3 k hk
      · rcases List.mem_append.1 hk with hk | hk
        · exact v2 k hk
        · exact b2 k hk
    · rcases List.mem_append.1 hk with hk | hk
      · exact q4 k hk
      · rcases List.mem_append.1 hk with hk | hk
        · exact v3 k hk
        · exact b3 k hk) (by simp [certsR, imm])
  have h3 : Own B w0 W (blk x.i x.o :: segR x.b 122 ((x.l.set k p).flatMap pmCells) :: certsR (x.sl k p) :: (x.l.map pmR ++ ss)) := (h2.perm (List.perm_middle (l₁ := [_, _, _, _])).symm).drop.drop
  show Own B w0 W (insHd (x.sl k p) ++ ((x.l.set k p).map pmR ++ ss))
  rw [hmap]
  exact h3

/-- The six cells of a place that is done are stored. -/
theorem oi_dw (h : Own B w0 W (redR v2 2 vs.length (vsCells vs) :: redR v1 6 l.length (rqsCells l) :: (insHd x ++ (x.l.map pmR ++ ss)))) (k : Nat) (hk : k < x.l.length) (view inst seq : Int) (hn : l.length ≤ 100000) (hm : vs.length ≤ 100000) :
    OwnI B w0 ((((((W.setCell ⟨x.b, k * 14 + 8, none⟩ (.bool true)).setCell ⟨x.b, k * 14 + 9, none⟩ (.int .i64 view)).setCell ⟨x.b, k * 14 + 9 + 1, none⟩ (.int .i64 inst)).setCell ⟨x.b, k * 14 + 9 + 2, none⟩ (.int .i64 seq)).setCell ⟨x.b, k * 14 + 9 + 3, none⟩ v1).setCell ⟨x.b, k * 14 + 9 + 4, none⟩ v2)
      (x.sl k { x.l[k] with done := true, dw := ⟨view, inst, seq, v1, v2, l, vs⟩ }) ss := by
  have h1 := (((((((h.perm (List.perm_middle (l₁ := [_, _, _]))).put (k * 14 + 8) (.bool true)).put (k * 14 + 9) (.int .i64 view)).put (k * 14 + 9 + 1) (.int .i64 inst)).put (k * 14 + 9 + 2) (.int .i64 seq)).put (k * 14 + 9 + 3) v1).put (k * 14 + 9 + 4) v2)
  rw [put_done' x.l k hk ⟨view, inst, seq, v1, v2, l, vs⟩] at h1
  exact oi_place (c := ⟨view, inst, seq, v1, v2, l, vs⟩) (h1.perm (List.perm_middle (l₁ := [_, _, _])).symm) hk rfl rfl hn hm (.inr ⟨rfl, rfl⟩)
theorem oi_ct (h : Own B w0 W (redR v2 2 vs.length (vsCells vs) :: redR v1 6 l.length (rqsCells l) :: (insHd x ++ (x.l.map pmR ++ ss)))) (k : Nat) (hk : k < x.l.length) (view inst seq : Int) (hn : l.length ≤ 100000) (hm : vs.length ≤ 100000) :
    OwnI B w0 (((((((W.setCell ⟨x.b, k * 14 + 1, none⟩ (.bool true)).setCell ⟨x.b, k * 14 + 2, none⟩ (.bool true)).setCell ⟨x.b, k * 14 + 3, none⟩ (.int .i64 view)).setCell ⟨x.b, k * 14 + 3 + 1, none⟩ (.int .i64 inst)).setCell ⟨x.b, k * 14 + 3 + 2, none⟩ (.int .i64 seq)).setCell ⟨x.b, k * 14 + 3 + 3, none⟩ v1).setCell ⟨x.b, k * 14 + 3 + 4, none⟩ v2)
      (x.sl k { x.l[k] with told := true, has := true, ct := ⟨view, inst, seq, v1, v2, l, vs⟩ }) ss := by
  have h1 := ((((((((h.perm (List.perm_middle (l₁ := [_, _, _]))).put (k * 14 + 1) (.bool true)).put (k * 14 + 2) (.bool true)).put (k * 14 + 3) (.int .i64 view)).put (k * 14 + 3 + 1) (.int .i64 inst)).put (k * 14 + 3 + 2) (.int .i64 seq)).put (k * 14 + 3 + 3) v1).put (k * 14 + 3 + 4) v2)
  rw [put_cert' x.l k hk ⟨view, inst, seq, v1, v2, l, vs⟩] at h1
  exact oi_place (c := ⟨view, inst, seq, v1, v2, l, vs⟩) (h1.perm (List.perm_middle (l₁ := [_, _, _])).symm) hk rfl rfl hn hm (.inl ⟨rfl, rfl⟩)

/-- What a call leaves that tells a certificate, or none. -/
def CertP (B : Nat) (w0 W : World) (i : Nat) (r : Option Cp) (st : In) (ss : List Res) (e : Ending) (w' : World) : Prop :=
  ∃ c : Ct, e = .returned (.tuple #[ctAgg c, .bool r.isSome]) ∧ c.cp = r.getD noCp ∧ (c.rs.length ≤ 100000 ∧ c.vs.length ≤ 100000) ∧ Bat w' c.vb c.rs ∧ Vts w' c.vv c.vs ∧ (∀ k ∈ blkOf c.vb, W.heap.size ≤ k) ∧ (∀ k ∈ blkOf c.vv, W.heap.size ≤ k) ∧
    ∃ x' : Ins, x'.i = i ∧ x'.st = st ∧ Own B w0 w' (redR c.vv 2 c.vs.length (vsCells c.vs) :: redR c.vb 6 c.rs.length (rqsCells c.rs) :: instR x' :: ss)

def noCt : Ct := ⟨0, 0, 0, .slice none 0 0, .slice none 0 0, [], []⟩

theorem certP_none {st : In} {r : Option Cp} (h : Own B w0 W' (instR x :: ss)) (hr : r = none) (hst : st = x.st) : CertP B w0 W x.i r st ss (.returned (.tuple #[ctAgg noCt, .bool false])) W' := by
  subst hr
  exact ⟨noCt, rfl, rfl, by simp [noCt], Reads.nil _ _, Reads.nil _ _, by simp [noCt, blkOf], by simp [noCt, blkOf], x, rfl, hst.symm, (h.red (Reads.nil _ _) (by simp [blkIf])).red (Reads.nil _ _) (by simp [blkIf, noCt])⟩

end
end Go.Proofs.Ytdeadekeffficaa

/- inst: Commits. -/
namespace Go.Proofs.Ytdeadekeffficaa
open Go.RowKit Go.Heap

section
variable {B : Nat} {w0 W W' : World} {ss rs : List Res} {x : Ins}

abbrev zct : Obj := ctO 0 0 0 (.slice none 0 0) (.slice none 0 0)

/-- The first ones turned about, so that the instance's places stand at the head. -/
theorem seg_first {r1 r2 r3 sg : Res} (h : Own B w0 W (r1 :: r2 :: r3 :: sg :: rs)) : Own B w0 W (sg :: r1 :: r2 :: r3 :: rs) := h.perm (List.perm_middle (l₁ := [_, _, _]))
theorem seg_back {r1 r2 r3 sg : Res} (h : Own B w0 W (sg :: r1 :: r2 :: r3 :: rs)) : Own B w0 W (r1 :: r2 :: r3 :: sg :: rs) := h.perm (List.perm_middle (l₁ := [_, _, _])).symm

theorem own_red2 {v u : Value} {l : List Rq} {vs : Vs} (h : Own B w0 W rs) (hu : Upd [] W W') (hb : Bat W' v l) (hv : Vts W' u vs) (n1 : ∀ k ∈ blkOf v, W.heap.size ≤ k) (n2 : ∀ k ∈ blkOf u, W.heap.size ≤ k) :
    Own B w0 W' (redR u 2 vs.length (vsCells vs) :: redR v 6 l.length (rqsCells l) :: rs) := by
  have h1 := (h.upd0 hu).red hb (fun k hk => h.fresh (n1 k (blkIf_sub hk)))
  refine h1.red hv (fun k hk hn => ?_)
  rcases (Ms_cons _ _ _).1 hn with hn | hn
  · simp [redR, imm] at hn
  · exact h.fresh (n2 k (blkIf_sub hk)) hn

theorem imm_read {c : Ct} {D : List Nat} (h : CtIn W c D) : Bat W c.vb c.rs ∧ Vts W c.vv c.vs := ⟨h.b.1, h.v.1⟩
theorem oi_cert (h : OwnI B w0 W x ss) (k : Nat) (hk : k < x.l.length) : (Bat W x.l[k].ct.vb x.l[k].ct.rs ∧ Vts W x.l[k].ct.vv x.l[k].ct.vs ∧ x.l[k].ct.rs.length ≤ 100000 ∧ x.l[k].ct.vs.length ≤ 100000) ∧
    Bat W x.l[k].dw.vb x.l[k].dw.rs ∧ Vts W x.l[k].dw.vv x.l[k].dw.vs ∧ x.l[k].dw.rs.length ≤ 100000 ∧ x.l[k].dw.vs.length ≤ 100000 := by
  obtain ⟨D, ⟨⟨_, h2⟩, _⟩, _, _⟩ := (h.all (certsR x) (by simp [insHd])).1
  obtain ⟨q1, q2⟩ := h2 x.l[k] (by simp)
  exact ⟨⟨q1.b.1, q1.v.1, q1.bn, q1.vn⟩, q2.b.1, q2.v.1, q2.bn, q2.vn⟩

/-- The block at the head of what is beside an instance. -/
theorem oi_box {b : Nat} {o : Obj} (h : OwnI B w0 W x (blk b o :: ss)) : W.heap[b]? = some o := (own_shut h).drop.blk_out

theorem cm_batch {all : List Vt} {q n : Nat} : ∀ l : List Vt, (∀ t ∈ l, t.batch.length ≤ n) → (batchOf (committedL all q l)).length ≤ n
  | [], _ => by simp [committedL, batchOf]
  | t :: r, h => by
    have ih := cm_batch (all := all) (q := q) r (fun t ht => h t (List.mem_cons_of_mem _ ht))
    unfold committedL
    cases t.has
    · exact ih
    · cases enoughS all t.batch q with
      | none => exact ih
      | some vs => exact h t (by simp)

theorem en_votes {all : List Vt} {b : List Rq} {q : Nat} {vs : Vs} (h : enoughS all b q = some vs) : vs.length ≤ q := by
  unfold enoughS at h
  split at h
  · cases h
  · simp only [Option.some.injEq] at h
    subst h
    rw [List.length_take]; omega

theorem cm_votes {all : List Vt} {q : Nat} : ∀ l : List Vt, (votesOf (committedL all q l)).length ≤ q
  | [] => by simp [committedL, votesOf]
  | t :: r => by
    have ih := cm_votes (all := all) (q := q) r
    unfold committedL
    cases t.has
    · exact ih
    · cases he : enoughS all t.batch q with
      | none => exact ih
      | some vs => exact en_votes he

theorem cm_small {st : Sl} {f : Nat} (h : ∀ t ∈ st.cs, t.batch.length ≤ 100000) (hf : f ≤ 4) : (batchOf (committedS f st)).length ≤ 100000 ∧ (votesOf (committedS f st)).length ≤ 100000 :=
  ⟨cm_batch _ h, by have := cm_votes (all := st.cs) (q := 2 * f + 1) st.cs; unfold committedS; omega⟩

theorem own_st5 {b : Nat} {a1 a2 a3 : Int} {a4 a5 : Value} (h : Own B w0 W (blk b (ctO a1 a2 a3 a4 a5) :: rs)) (view inst seq : Int) (vb vv : Value) :
    Own B w0 (((((W.setCell ⟨b, 0, none⟩ (.int .i64 view)).setCell ⟨b, 1, none⟩ (.int .i64 inst)).setCell ⟨b, 2, none⟩ (.int .i64 seq)).setCell ⟨b, 3, none⟩ vb).setCell ⟨b, 4, none⟩ vv) (blk b (ctO view inst seq vb vv) :: rs) :=
  ((((h.store 0 (.int .i64 view)).store 1 (.int .i64 inst)).store 2 (.int .i64 seq)).store 3 vb).store 4 vv

theorem upd_st5 (w : World) (b : Nat) (view inst seq : Int) (vb vv : Value) : Upd [b] w (((((w.setCell ⟨b, 0, none⟩ (.int .i64 view)).setCell ⟨b, 1, none⟩ (.int .i64 inst)).setCell ⟨b, 2, none⟩ (.int .i64 seq)).setCell ⟨b, 3, none⟩ vb).setCell ⟨b, 4, none⟩ vv) :=
  (((((Upd.refl _ _).setCell (.inl (by simp)) _).setCell (.inl (by simp)) _).setCell (.inl (by simp)) _).setCell (.inl (by simp)) _).setCell (.inl (by simp)) _

theorem comm_off {seq : Int} {st : In} (h : commI st seq = none) : commitsI st seq = st := by
  unfold commitsI; rw [h]; cases idx seq <;> rfl

set_option maxHeartbeats 2000000 in
set_option maxRecDepth 100000 in
theorem ins_commits (h : Own B w0 W (instR x :: ss)) {i : Nat} (hi : x.i = i) (seq : Int) : Calls Try.prog 36 #[.pointer (some ⟨i, 0, none⟩), .int .i64 seq] W (CertP B w0 W i (commI x.st seq) (commitsI x.st seq) ss) := by
  subst hi
  have hz := own_open (h.box zct).swap
  obtain ⟨-, -, -, -, -, c5, l1, l2⟩ := oi_cells hz
  cases hk : idx seq with
  | none =>
    have hs := idx_none hk
    have HE := Lib.hid (show commI x.st seq = none by simp [commI, plAt_none hk])
    have HA := Lib.hid (at_no x.i x.b x.cap seq _ hs c5)
    have H := Lib.hid h
    clear hz h hk hs c5
    go_enter Try.func36, Try.ntmps36
    go_wp2_with fail
    refine HA.out.mono ?_
    rintro e w' ⟨rfl, rfl⟩
    go_wp2_with fail
    exact bodyPost_ret (v := .tuple #[ctAgg noCt, .bool false]) (by simp [results, Try.results36, go_sem, noCt]) rfl (certP_none (H.out.upd0 ((Upd.refl _ _).alloc _)) HE.out (comm_off HE.out))
  | some k =>
    obtain ⟨hl, hp⟩ := plAt_some (oi_ok hz) hk
    obtain ⟨i1, i2⟩ := idx_lt hk
    have HA := Lib.hid (at_yes x.i x.b x.cap seq _ (by omega) (by omega) c5)
    have hks : seq.toNat - 1 = k := by omega
    rw [hks] at HA
    have cp := oi_ptr hz k hl
    have cd := oi_done hz k hl
    have HLF := Lib.hid ((oi_ok hz).lf _ (List.getElem_mem hl))
    cases hd : x.l[k].done
    · rw [hd] at cd
      have HC := Lib.hid (own_committed (oi_pick hz k hl))
      have HSM := Lib.hid (cm_small (own_small (oi_pick hz k hl)).2.2.1 (oi_ok hz).f2)
      have HCI := Lib.hid (show commI x.st seq = (committedS x.f x.l[k].sl).map fun r => ⟨x.view, x.num, seq, r.1, r.2⟩ by simp only [commI, hp]; simp [Pm.pl, Ins.st, hd])
      have HZ := Lib.hid hz
      have H := Lib.hid h
      have HK := Lib.hid hk
      clear hz h hk hp i2 hks hd
      go_enter Try.func36, Try.ntmps36
      go_wp2_with fail
      refine HA.out.mono ?_
      rintro e w' ⟨rfl, rfl⟩
      go_wp2_with fail
      refine HC.out.mono ?_
      rintro e w2 ⟨v, u, rfl, hu, hb, hv, n1, n2⟩
      rw [HLF.out] at hb hv ⊢
      obtain ⟨ao, cap, rfl⟩ := bat_form hb
      obtain ⟨co, cav, rfl⟩ := vts_form hv
      have H2 := Lib.hid (own_red2 HZ.out hu hb hv n1 n2)
      clear hu hb hv n1 n2 cp cd c5 HC HA
      obtain ⟨hnb, hnv⟩ := HSM.out
      cases hcm : committedS x.f x.l[k].sl with
      | none =>
        rw [hcm] at HCI
        have H3 := Lib.hid (own_shut H2.out.drop.drop)
        have fz := fun o => block_frozen H3.out.drop.blk_out o
        have hbx := H3.out.drop.blk_out
        have HBX := Lib.hid hbx
        obtain ⟨f0, f1, f2, f3, f4, fl, -⟩ := ct_cells hbx
        have fz0 := fz 0
        have fz1 := fz 1
        have fz2 := fz 2
        have fz3 := fz 3
        have fz4 := fz 4
        clear hbx fz hcm
        go_wp2_with fail
        have H4 := Lib.hid (own_st5 H3.out.swap 0 0 0 (.slice none 0 0) (.slice none 0 0))
        generalize ((((w2.setCell ⟨W.heap.size, 0, none⟩ (.int .i64 0)).setCell ⟨W.heap.size, 1, none⟩ (.int .i64 0)).setCell ⟨W.heap.size, 2, none⟩ (.int .i64 0)).setCell ⟨W.heap.size, 3, none⟩ (.slice none 0 0)).setCell ⟨W.heap.size, 4, none⟩ (.slice none 0 0) = w4 at *
        clear f0 f1 f2 f3 f4 fl fz0 fz1 fz2 fz3 fz4 HBX
        obtain ⟨f0, f1, f2, f3, f4, fl, -⟩ := ct_cells H4.out.blk_out
        exact bodyPost_ret (v := .tuple #[ctAgg noCt, .bool false]) (by simp [results, Try.results36, go_sem, noCt, f0, f1, f2, f3, f4]) rfl (certP_none H4.out.drop HCI.out (comm_off HCI.out))
      | some r =>
        rw [hcm] at HCI H2 hnb hnv
        have hb2 := oi_blk H2.out.drop.drop
        have HB2 := Lib.hid hb2
        clear hb2 hcm
        go_wp2_with fail
        refine (cert_any x.i x.f x.num x.ahead x.view x.on _ seq ao _ cap co _ cav _ HB2.out).mono ?_
        rintro e w3 ⟨rfl, hu3⟩
        have H3 := Lib.hid (H2.out.upd0 hu3)
        clear hu3 H2 HB2
        have ho3 := H3.out.drop.drop
        have c8 := oi_at ho3 k hl 8 (by omega)
        have c9 := oi_at ho3 k hl 9 (by omega)
        have c10 := oi_at ho3 k hl 10 (by omega)
        have c11 := oi_at ho3 k hl 11 (by omega)
        have c12 := oi_at ho3 k hl 12 (by omega)
        have c13 := oi_at ho3 k hl 13 (by omega)
        obtain ⟨fzb, -⟩ := oi_fz ho3
        have z8 := fzb (k * 14 + 8)
        have z9 := fzb (k * 14 + 9)
        have z10 := fzb (k * 14 + 10)
        have z11 := fzb (k * 14 + 11)
        have z12 := fzb (k * 14 + 12)
        have z13 := fzb (k * 14 + 13)
        clear ho3 fzb
        simp only [pmCells, List.getElem?_cons_succ, List.getElem?_cons_zero] at c8 c9 c10 c11 c12 c13
        go_wp2_with fail
        have H4 := Lib.hid (oi_dw H3.out k hl x.view x.num seq hnb hnv)
        have r1 := (redR_out (H3.out.drop.head))
        have r2 := (redR_out H3.out.head)
        have H4S := Lib.hid (show W.heap.size < w3.heap.size from block_lt (own_shut H3.out.drop.drop).drop.blk_out)
        generalize (((((w3.setCell ⟨x.b, k * 14 + 8, none⟩ (.bool true)).setCell ⟨x.b, k * 14 + 9, none⟩ (.int .i64 x.view)).setCell ⟨x.b, k * 14 + 9 + 1, none⟩ (.int .i64 x.num)).setCell ⟨x.b, k * 14 + 9 + 2, none⟩ (.int .i64 seq)).setCell ⟨x.b, k * 14 + 9 + 3, none⟩ (.slice ao (batchOf (some r)).length cap)).setCell ⟨x.b, k * 14 + 9 + 4, none⟩ (.slice co (votesOf (some r)).length cav) = w4 at *
        clear c8 c9 c10 c11 c12 c13 z8 z9 z10 z11 z12 z13 H3 r1 r2
        have hq := (oi_cert H4.out k (by simpa using hl)).2
        simp only [List.getElem_set_self] at hq
        obtain ⟨q1, q2, q3, q4⟩ := hq
        have HF := Lib.hid (fresh_ct ⟨x.view, x.num, seq, .slice ao (batchOf (some r)).length cap, .slice co (votesOf (some r)).length cav, batchOf (some r), votesOf (some r)⟩ w4 q1 q3 q2 q4)
        clear q1 q2 q3 q4
        have H4L := Lib.hid (show W.heap.size < w4.heap.size from block_lt (own_shut H4.out).drop.blk_out)
        refine HF.out.mono ?_
        rintro e w5 ⟨⟨view', inst', seq', vb', vv', rs', vs'⟩, rfl, hcp, hu5, hb5, hv5, nb, nv⟩
        simp only at hb5 hv5 nb nv
        obtain ⟨ao6, cap6, rfl⟩ := bat_form hb5
        obtain ⟨co6, cav6, rfl⟩ := vts_form hv5
        have H5 := Lib.hid ((own_red2 (own_shut H4.out).swap hu5 hb5 hv5 nb nv).rot)
        have HCP := Lib.hid hcp
        have HB5 := Lib.hid hb5
        have HV5 := Lib.hid hv5
        have NB := Lib.hid nb
        have NV := Lib.hid nv
        clear hcp hu5 hb5 hv5 nb nv H4 HF
        obtain ⟨f0, f1, f2, f3, f4, fl, fz⟩ := ct_cells H5.out.blk_out
        have fz0 := fz 0
        have fz1 := fz 1
        have fz2 := fz 2
        have fz3 := fz 3
        have fz4 := fz 4
        clear fz
        go_wp2_with fail
        have H6 := Lib.hid (own_st5 H5.out view' inst' seq' (.slice ao6 rs'.length cap6) (.slice co6 vs'.length cav6))
        have HU6 := Lib.hid (upd_st5 w5 W.heap.size view' inst' seq' (.slice ao6 rs'.length cap6) (.slice co6 vs'.length cav6))
        generalize ((((w5.setCell ⟨W.heap.size, 0, none⟩ (.int .i64 view')).setCell ⟨W.heap.size, 1, none⟩ (.int .i64 inst')).setCell ⟨W.heap.size, 2, none⟩ (.int .i64 seq')).setCell ⟨W.heap.size, 3, none⟩ (.slice ao6 rs'.length cap6)).setCell ⟨W.heap.size, 4, none⟩ (.slice co6 vs'.length cav6) = w6 at *
        clear f0 f1 f2 f3 f4 fl fz0 fz1 fz2 fz3 fz4 H5
        obtain ⟨f0, f1, f2, f3, f4, fl, -⟩ := ct_cells H6.out.blk_out
        refine bodyPost_ret (v := .tuple #[ctAgg ⟨view', inst', seq', .slice ao6 rs'.length cap6, .slice co6 vs'.length cav6, rs', vs'⟩, .bool true]) (by simp [results, Try.results36, go_sem, f0, f1, f2, f3, f4]) rfl ?_
        have hcp := HCP.out
        simp only [Ct.cp, Cp.mk.injEq] at hcp
        obtain ⟨e1, e2, e3, e4, e5⟩ := hcp
        have hnew : ∀ (v : Value), (∀ k ∈ blkOf v, w4.heap.size ≤ k) → (∀ k ∈ blkOf v, W.heap.size ≤ k) ∧ ∀ k ∈ blkOf v, k ∉ [W.heap.size] := fun v hv => ⟨fun k hk => by have := hv k hk; have := H4L.out; omega, fun k hk hn => by have := hv k hk; have := H4L.out; simp at hn; omega⟩
        refine ⟨⟨view', inst', seq', .slice ao6 rs'.length cap6, .slice co6 vs'.length cav6, rs', vs'⟩, ?_, ?_, ⟨by simp only [e4]; exact hnb, by simp only [e5]; exact hnv⟩, HB5.out.upd HU6.out (hnew _ NB.out).2, Reads.upd HV5.out HU6.out (hnew _ NV.out).2, (hnew _ NB.out).1, (hnew _ NV.out).1,
          x.sl k { x.l[k] with done := true, dw := ⟨x.view, x.num, seq, .slice ao (batchOf (some r)).length cap, .slice co (votesOf (some r)).length cav, batchOf (some r), votesOf (some r)⟩ }, rfl, ?_, H6.out.drop⟩
        · rw [HCI.out]; rfl
        · rw [HCI.out]
          simp only [Ct.cp, Option.map_some, Option.getD_some, Cp.mk.injEq]
          exact ⟨e1, e2, e3, e4, e5⟩
        · rw [show commitsI x.st seq = x.st.upd k fun p => { p with done := true, dw := ⟨x.view, x.num, seq, r.1, r.2⟩ } by simp [commitsI, HK.out, HCI.out]]
          exact st_set x k hl _ _ rfl
    · rw [hd] at cd
      have HE := Lib.hid (show commI x.st seq = none by simp only [commI, hp]; simp [Pm.pl, hd])
      have H := Lib.hid h
      clear hz h hk hp i2 hks hd c5 cp
      go_enter Try.func36, Try.ntmps36
      go_wp2_with fail
      refine HA.out.mono ?_
      rintro e w' ⟨rfl, rfl⟩
      go_wp2_with fail
      exact bodyPost_ret (v := .tuple #[ctAgg noCt, .bool false]) (by simp [results, Try.results36, go_sem, noCt]) rfl (certP_none (H.out.upd0 ((Upd.refl _ _).alloc _)) HE.out (comm_off HE.out))

end
end Go.Proofs.Ytdeadekeffficaa

/- inst: New. -/
namespace Go.Proofs.Ytdeadekeffficaa
open Go.RowKit Go.Heap

theorem Try.infoPl : (Try.prog.info? 122).map (fun i => (i.zero, i.size, i.bytes)) = some (some (.agg #[.pointer none, .bool false, .bool false, .int .i64 0, .int .i64 0, .int .i64 0, .slice none 0 0, .slice none 0 0, .bool false, .int .i64 0, .int .i64 0, .int .i64 0, .slice none 0 0, .slice none 0 0]), 14, 168) := by kernel_rfl

section
variable {B : Nat} {w0 W W' : World} {ss rs : List Res} {x : Ins}

def newPm (L : Loc) (f : Nat) : Pm := ⟨L, emptySl f, false, false, noCt, false, noCt⟩

theorem newPm_one (L : Loc) (f : Nat) : ∀ u ∈ pmCells (newPm L f), u.oneCell' = true := by
  intro u hu
  simp only [pmCells, newPm, noCt, List.mem_cons, List.not_mem_nil, or_false] at hu
  rcases hu with rfl | rfl | rfl | rfl | rfl | rfl | rfl | rfl | rfl | rfl | rfl | rfl | rfl | rfl <;> rfl

/-- What New leaves. -/
def NewP (B : Nat) (w0 : World) (st : In) (ss : List Res) (e : Ending) (w' : World) : Prop := ∃ x : Ins, e = .returned (.tuple #[x.ptr, .int .i64 0]) ∧ x.st = st ∧ Own B w0 w' (instR x :: ss)

/-- An instance that is being made: k places. -/
def MkI (B : Nat) (w0 w : World) (i f : Nat) (num ahead : Int) (k : Nat) (ss : List Res) : Prop :=
  ∃ (ls : List Loc) (ao : Option Addr) (cp : Nat), ls.length = k ∧ (∀ L ∈ ls, L.f = f) ∧
    Own B w0 w (ownR 122 14 (.slice ao k cp) k ((ls.map fun L => newPm L f).flatMap pmCells) :: blk i (insO f num ahead 0 true (.slice ao k cp)) :: ((ls.map fun L => newPm L f).map pmR ++ ss))

theorem mk_more {i f : Nat} {num ahead : Int} {k g cap2 : Nat} {ls : List Loc} {L : Loc} {ao : Option Addr} {cp : Nat} (hl : ls.length = k) (hlf : ∀ L ∈ ls, L.f = f) (hf : L.f = f)
    (h : Own B w0 W (blk i (setIn 5 (.slice (some ⟨g, 0, none⟩) (k + 1) cap2) (insO f num ahead 0 true (.slice ao k cp))) :: ownR 122 14 (.slice (some ⟨g, 0, none⟩) (k + 1) cap2) (k + 1) ((ls.map fun L => newPm L f).flatMap pmCells ++ pmCells (newPm L f)) :: slotR L (emptySl f) :: ((ls.map fun L => newPm L f).map pmR ++ ss))) : MkI B w0 W i f num ahead (k + 1) ss := by
  refine ⟨ls ++ [L], some ⟨g, 0, none⟩, cap2, by simp [hl], fun L' hL' => ?_, ?_⟩
  · rcases List.mem_append.1 hL' with h | h
    · exact hlf L' h
    · simp at h; subst h; exact hf
  · have h2 := h.rot
    have h3 : Own B w0 W (slotR L (emptySl f) :: ([ownR 122 14 (.slice (some ⟨g, 0, none⟩) (k + 1) cap2) (k + 1) ((ls.map fun L => newPm L f).flatMap pmCells ++ pmCells (newPm L f)), blk i (insO f num ahead 0 true (.slice (some ⟨g, 0, none⟩) (k + 1) cap2))] ++ ((ls.map fun L => newPm L f).map pmR ++ ss))) := h2.perm (List.Perm.cons _ (List.Perm.swap _ _ _))
    have h4 := Own.perm (ss := ([ownR 122 14 (.slice (some ⟨g, 0, none⟩) (k + 1) cap2) (k + 1) ((ls.map fun L => newPm L f).flatMap pmCells ++ pmCells (newPm L f)), blk i (insO f num ahead 0 true (.slice (some ⟨g, 0, none⟩) (k + 1) cap2))] ++ (ls.map fun L => newPm L f).map pmR) ++ slotR L (emptySl f) :: ss) h3 (by
      rw [← List.append_assoc]
      exact List.perm_middle.symm)
    simp only [List.map_append, List.flatMap_append, List.map_cons, List.map_nil, List.flatMap_cons, List.flatMap_nil, List.append_nil, List.append_assoc, List.cons_append, List.nil_append] at h4 ⊢
    exact h4

theorem mk_done {i f : Nat} {num ahead : Int} {ls : List Loc} {ao : Option Addr} {cp : Nat} (hf1 : 1 ≤ f) (hf2 : f ≤ 4) (ha1 : 1 ≤ ahead) (ha2 : ahead ≤ 16) (hl : ls.length = 16) (hlf : ∀ L ∈ ls, L.f = f)
    (h : Own B w0 W (ownR 122 14 (.slice ao 16 cp) 16 ((ls.map fun L => newPm L f).flatMap pmCells) :: blk i (insO f num ahead 0 true (.slice ao 16 cp)) :: ((ls.map fun L => newPm L f).map pmR ++ ss))) : ∃ x : Ins, x.i = i ∧ x.st = newI f num ahead ∧ Own B w0 W (instR x :: ss) := by
  have hown := ownR_owns h.head
  rcases hown.2 with ⟨h1, h2⟩ | ⟨g, cap, cur, h1, hb, hg, q1, q2, q3, q4⟩
  · omega
  · simp only [Value.slice.injEq] at h1
    obtain ⟨rfl, -, rfl⟩ := h1
    have h2 := h.alter (r' := segR g 122 ((ls.map fun L => newPm L f).flatMap pmCells)) (ownR_seg h.head) (fun k hk => by simp [ownR, blkOf, segR] at hk ⊢; exact hk)
    refine ⟨⟨i, g, cp, f, num, ahead, 0, true, ls.map fun L => newPm L f⟩, rfl, ?_, own_shut ?_⟩
    · simp only [Ins.st, newI, In.mk.injEq, true_and, List.map_map]
      apply List.ext_getElem?
      intro j
      rw [List.getElem?_map, List.getElem?_replicate]
      by_cases hj : j < 16
      · rw [if_pos hj, List.getElem?_eq_getElem (by omega)]; rfl
      · rw [if_neg hj, List.getElem?_eq_none (by omega)]; rfl
    · have h3 : Own B w0 W (certsR ⟨i, g, cp, f, num, ahead, 0, true, ls.map fun L => newPm L f⟩ :: segR g 122 ((ls.map fun L => newPm L f).flatMap pmCells) :: blk i (insO f num ahead 0 true (.slice (some ⟨g, 0, none⟩) 16 cp)) :: ((ls.map fun L => newPm L f).map pmR ++ ss)) := h2.new (Upd.refl [] _) ⟨[], ⟨⟨⟨by simp [hl], hf1, hf2, fun p hp => ?_, q1, ha1, ha2, by simp⟩, fun p hp => ?_⟩, by simp⟩, by simp, fun k hk => h2.lt k hk⟩ (by simp [certsR, imm])
      · exact h3.swap.rot
      · simp only [List.mem_map] at hp
        obtain ⟨L, hL, rfl⟩ := hp
        exact hlf L hL
      · simp only [List.mem_map] at hp
        obtain ⟨L, hL, rfl⟩ := hp
        exact ⟨⟨ReadsIn.nil _ _ _, by simp [newPm, noCt], ReadsIn.nil _ _ _, by simp [newPm, noCt]⟩, ⟨ReadsIn.nil _ _ _, by simp [newPm, noCt], ReadsIn.nil _ _ _, by simp [newPm, noCt]⟩⟩

set_option maxHeartbeats 2000000 in
set_option maxRecDepth 100000 in
theorem ins_new (f : Nat) (num ahead : Int) (hf1 : 1 ≤ f) (hf2 : f ≤ 4) (hn1 : 0 ≤ num) (hn2 : num ≤ f) (ha1 : 1 ≤ ahead) (ha2 : ahead ≤ 16) (h : Own B w0 W ss) :
    Calls Try.prog 34 #[.int .i64 f, .int .i64 num, .int .i64 ahead] W (NewP B w0 (newI f num ahead) ss) := by
  obtain ⟨i0, hi, hz0, hz1, hz2⟩ := info_parts Try.infoPl
  have hb1 : decide ((f : Int) < 1) = false := by simp; omega
  have hb2 : decide (4 < (f : Int)) = false := by simp; omega
  have hb3 : decide (num < 0) = false := by simp; omega
  have hb4 : decide ((f : Int) < num) = false := by simp; omega
  have hb5 : decide (ahead < 1) = false := by simp; omega
  have hb6 : decide (16 < ahead) = false := by simp; omega
  have h0 : MkI B w0 (W.alloc (insO f num ahead 0 true (.slice none 0 0))) W.heap.size f num ahead 0 ss := ⟨[], none, 0, rfl, by simp, (h.box (insO f num ahead 0 true (.slice none 0 0))).row0⟩
  have H0 := Lib.hid h0
  clear h0 h
  go_enter Try.func34, Try.ntmps34
  go_wp2_with fail
  go_loopw [39] (fun i wr => ∃ k : Nat, k ≤ 16 ∧ i = .int .i64 k ∧ Hid (MkI B w0 wr W.heap.size f num ahead k ss)) (fun i _ => 16 - (intOf i).toNat)
  case atStart => exact ⟨0, by omega, rfl, H0⟩
  case round =>
    clear H0
    obtain ⟨k, hk, rfl, HM⟩ := hrel
    by_cases hlt : k < 16
    · have hkI : (k : Int) < 16 := by omega
      obtain ⟨ls, ao, cp, hl, hlf, hown⟩ := HM.out
      have HL := Lib.hid hl
      have HLF := Lib.hid hlf
      have HC := Lib.hid (own_new f hf1 hf2 hown)
      clear hl hlf hown
      go_wp2_with fail
      refine HC.out.mono ?_
      rintro e w2 ⟨L, rfl, hLf, -, h2⟩
      have H2 := Lib.hid h2
      have HF := Lib.hid hLf
      clear h2 hLf HC
      have hbl := H2.out.drop.drop.blk_out
      have c5 : w2.cell? ⟨W.heap.size, 5, none⟩ = some (.slice ao k cp) := by rw [block_cell hbl]; rfl
      clear hbl
      have HO := Lib.hid (ownR_owns (H2.out.alloc (.cells (pmCells (newPm L f)).toArray 122)).drop.head)
      go_wp2_with (at_builtin; refine wpList_append_lies _ rfl (.tmp 50) (.tmp 53) 118 rfl 0 122 i0 (.agg #[.pointer none, .bool false, .bool false, .int .i64 0, .int .i64 0, .int .i64 0, .slice none 0 0, .slice none 0 0, .bool false, .int .i64 0, .int .i64 0, .int .i64 0, .slice none 0 0, .slice none 0 0]) 14 168 Try.underlying118 hi hz0 hz1 hz2 rfl (by decide) _ k _ rfl HO.out ⟨w2.heap.size, 0, none⟩ 1 1 (pmCells (newPm L f)) rfl rfl ?c1 ?c2 (by decide) ?c3 ?c4 (Nat.zero_le _) _ rfl ?c6)
      case c1 => exact World.news_of_block (heap_alloc_new w2 _)
      case c2 => exact newPm_one L f
      case c3 => unfold maxLen; omega
      case c4 => omega
      case c6 =>
        intro g cap2 w3 hown hgrow hat hlt
        have h3 := ((H2.out.alloc (.cells (pmCells (newPm L f)).toArray 122)).swap.grow hgrow (by rw [hs_alloc]; exact hat) hown)
        have H3 := Lib.hid h3
        clear hown hgrow hat hlt h3 HO c5
        have hbl := H3.out.drop.drop.blk_out
        have c5 : w3.cell? ⟨W.heap.size, 5, none⟩ = some (.slice ao k cp) := by rw [block_cell hbl]; rfl
        have fz := block_frozen hbl 5
        clear hbl
        go_wp2_with fail
        have H4 := Lib.hid ((H3.out.rot.store 5 (.slice (some ⟨g, 0, none⟩) (k + 1) cap2)))
        go_roundw
        case rel => exact ⟨k + 1, by omega, by go_num, Lib.hid (mk_more HL.out HLF.out HF.out H4.out)⟩
        case measure => simp [intOf]; omega
    · have hk16 : k = 16 := by omega
      subst hk16
      obtain ⟨ls, ao, cp, hl, hlf, hown⟩ := HM.out
      have HX := Lib.hid (mk_done hf1 hf2 ha1 ha2 hl hlf hown)
      clear hl hlf hown
      go_wp2_with fail
      go_ret2
      obtain ⟨x, h1, h2, h3⟩ := HX.out
      exact ⟨x, by simp [Ins.ptr, h1], h2, h3⟩

end
end Go.Proofs.Ytdeadekeffficaa

/- psephoslaw15.wakes. -/
namespace Go.Proofs.Ytdeadekeffficaa
open Go.RowKit Go.Heap

/-- An instance in the state st at block i. -/
def AtI (B : Nat) (w0 w : World) (i : Nat) (st : In) (ss : List Res) : Prop := ∃ x : Ins, x.i = i ∧ x.st = st ∧ Own B w0 w (instR x :: ss)

section
variable {B : Nat} {w0 W W' : World} {ss rs : List Res} {x : Ins} {i : Nat} {st : In}

theorem AtI.upd0 (h : AtI B w0 W i st ss) (hu : Upd [] W W') : AtI B w0 W' i st ss := let ⟨x, h1, h2, h3⟩ := h; ⟨x, h1, h2, h3.upd0 hu⟩
theorem AtI.alloc (h : AtI B w0 W i st ss) (o : Obj) : AtI B w0 (W.alloc o) i st ss := h.upd0 ((Upd.refl _ _).alloc o)
theorem AtI.drew (h : AtI B w0 W i st ss) : AtI B w0 W.drew i st ss := h.upd0 (Upd.refl _ _).drew
theorem AtI.below (h : AtI B w0 W i st ss) : Below B w0 W := let ⟨_, _, _, h3⟩ := h; h3.below
theorem AtI.ss_own (h : AtI B w0 W i st ss) : Own B w0 W ss := let ⟨_, _, _, h3⟩ := h; h3.drop

/-- A new block beside it. -/
theorem ai_box (h : AtI B w0 W i st ss) (o : Obj) : AtI B w0 (W.alloc o) i st (blk W.heap.size o :: ss) := let ⟨x, h1, h2, h3⟩ := h; ⟨x, h1, h2, (h3.box o).swap⟩
theorem ai_blk {b : Nat} {o : Obj} (h : AtI B w0 W i st (blk b o :: ss)) : W.heap[b]? = some o := h.ss_own.blk_out
theorem ai_store {b : Nat} {o : Obj} (h : AtI B w0 W i st (blk b o :: ss)) (j : Nat) (v : Value) : AtI B w0 (W.setCell ⟨b, j, none⟩ v) i st (blk b (setIn j v o) :: ss) := let ⟨x, h1, h2, h3⟩ := h; ⟨x, h1, h2, (h3.swap.store j v).swap⟩
theorem ai_drop {r : Res} (h : AtI B w0 W i st (r :: ss)) : AtI B w0 W i st ss := let ⟨x, h1, h2, h3⟩ := h; ⟨x, h1, h2, h3.swap.drop⟩
theorem ai_perm {ss' : List Res} (h : AtI B w0 W i st ss) (hp : ss.Perm ss') : AtI B w0 W i st ss' := let ⟨x, h1, h2, h3⟩ := h; ⟨x, h1, h2, h3.perm (hp.cons _)⟩
theorem blk_ne {a b : Nat} {o p : Obj} (h : Own B w0 W (blk a o :: blk b p :: rs)) : a ≠ b := fun e => (List.pairwise_cons.1 h.apart).1 (blk b p) (by simp) a (by simp [blk]) (by simp [blk, e])
theorem ai_to (h : AtI B w0 W i st ss) (hb : Below W.heap.size W W') : AtI B w0 W' i st ss := h.upd0 (Upd.of_below hb)
theorem ai_red {v : Value} {sz n : Nat} {xs : List Value} (h : AtI B w0 W i st ss) (hr : Reads W' v sz n xs) (hu : Upd [] W W') (hk : ∀ k ∈ blkIf n v, W.heap.size ≤ k) : AtI B w0 W' i st (redR v sz n xs :: ss) :=
  let ⟨x, h1, h2, h3⟩ := h; ⟨x, h1, h2, ((h3.upd0 hu).red hr (fun k hkk => h3.fresh (hk k hkk))).swap⟩

theorem ai_new (f : Nat) (num ahead : Int) (hf1 : 1 ≤ f) (hf2 : f ≤ 4) (hn1 : 0 ≤ num) (hn2 : num ≤ f) (ha1 : 1 ≤ ahead) (ha2 : ahead ≤ 16) (h : Own B w0 W ss) :
    Calls Try.prog 34 #[.int .i64 f, .int .i64 num, .int .i64 ahead] W fun e w' => ∃ i, e = .returned (.tuple #[.pointer (some ⟨i, 0, none⟩), .int .i64 0]) ∧ AtI B w0 w' i (newI f num ahead) ss := by
  refine (ins_new f num ahead hf1 hf2 hn1 hn2 ha1 ha2 h).mono ?_
  rintro e w' ⟨x, he, hs, ho⟩
  exact ⟨x.i, he, x, rfl, hs, ho⟩

theorem ai_vote (h : AtI B w0 W i st ss) (kind seq node sl : Int) (v : Value) (l : List Rq) (hb : Bat W v l) (hn : l.length ≤ 100000) :
    Calls Try.prog 35 #[.pointer (some ⟨i, 0, none⟩), .int .i64 kind, .int .i64 seq, .int .i64 node, .int .i64 sl, v] W fun e w' => e = .returned (.bool (voteB st kind seq node)) ∧ AtI B w0 w' i (voteI st kind seq node sl l) ss := by
  obtain ⟨x, h1, rfl, h3⟩ := h
  exact ins_vote h3 h1 kind seq node sl v l hb hn

theorem ai_pre (h : AtI B w0 W i st ss) (seq : Int) (v : Value) (l : List Rq) (hb : Bat W v l) (hn : l.length ≤ 100000) :
    Calls Try.prog 40 #[.pointer (some ⟨i, 0, none⟩), .int .i64 seq, v] W fun e w' => e = .returned (.bool (preB st seq)) ∧ AtI B w0 w' i (preI st seq l) ss := by
  obtain ⟨x, h1, rfl, h3⟩ := h
  exact ins_pre h3 h1 seq v l hb hn

theorem ai_done (h : AtI B w0 W i st ss) : Calls Try.prog 37 #[.pointer (some ⟨i, 0, none⟩)] W fun e w' => e = .returned (.int .i64 (doneI st)) ∧ W = w' := by
  obtain ⟨x, h1, rfl, h3⟩ := h
  exact ins_done h3 h1

theorem ai_next (h : AtI B w0 W i st ss) : Calls Try.prog 52 #[.pointer (some ⟨i, 0, none⟩)] W fun e w' => e = .returned (.int .i64 (nextI st)) ∧ Upd [] W w' := by
  obtain ⟨x, h1, rfl, h3⟩ := h
  exact ins_next h3 h1

theorem ai_view (h : AtI B w0 W i st ss) : Calls Try.prog 50 #[.pointer (some ⟨i, 0, none⟩)] W fun e w' => e = .returned (.int .i64 st.view) ∧ W = w' := by
  obtain ⟨x, h1, rfl, h3⟩ := h
  exact ins_view h3 h1

theorem ai_installed (h : AtI B w0 W i st ss) : Calls Try.prog 51 #[.pointer (some ⟨i, 0, none⟩)] W fun e w' => e = .returned (.bool st.on) ∧ W = w' := by
  obtain ⟨x, h1, rfl, h3⟩ := h
  exact ins_installed h3 h1

theorem ai_chosen (h : AtI B w0 W i st ss) (seq : Int) : Calls Try.prog 81 #[.pointer (some ⟨i, 0, none⟩), .int .i64 seq] W (ChosenP W (chosenI st seq)) := by
  obtain ⟨x, h1, rfl, h3⟩ := h
  exact ins_chosen h3 h1 seq

/-- A certificate that was told, in new memory; or none. -/
def Told (W w' : World) (r : Option Cp) (c : Ct) : Prop :=
  c.cp = r.getD noCp ∧ (c.rs.length ≤ 100000 ∧ c.vs.length ≤ 100000) ∧ Bat w' c.vb c.rs ∧ Vts w' c.vv c.vs ∧ (∀ k ∈ blkOf c.vb, W.heap.size ≤ k) ∧ ∀ k ∈ blkOf c.vv, W.heap.size ≤ k

theorem told_form {r : Option Cp} {c : Ct} {p : Cp} (h : Told W W' r c) (hp : r.getD noCp = p) : ∃ ao cap co cav, c = ⟨p.view, p.inst, p.seq, .slice ao p.rs.length cap, .slice co p.vs.length cav, p.rs, p.vs⟩ ∧ (p.rs.length ≤ 100000 ∧ p.vs.length ≤ 100000) ∧
    Bat W' (.slice ao p.rs.length cap) p.rs ∧ Vts W' (.slice co p.vs.length cav) p.vs ∧ (∀ k ∈ blkOf (.slice ao p.rs.length cap), W.heap.size ≤ k) ∧ ∀ k ∈ blkOf (.slice co p.vs.length cav), W.heap.size ≤ k := by
  subst hp
  obtain ⟨view, inst, seq, vb, vv, rs, vs⟩ := c
  obtain ⟨h1, h2, h3, h4, h5, h6⟩ := h
  simp only [Ct.cp] at h1 h2 h3 h4 h5 h6
  rw [← h1]
  obtain ⟨ao, cap, rfl⟩ := bat_form h3
  obtain ⟨co, cav, rfl⟩ := vts_form h4
  exact ⟨ao, cap, co, cav, rfl, h2, h3, h4, h5, h6⟩

theorem ai_commits (h : AtI B w0 W i st ss) (seq : Int) : Calls Try.prog 36 #[.pointer (some ⟨i, 0, none⟩), .int .i64 seq] W fun e w' => ∃ c : Ct, e = .returned (.tuple #[ctAgg c, .bool (commI st seq).isSome]) ∧ Told W w' (commI st seq) c ∧ AtI B w0 w' i (commitsI st seq) ss := by
  obtain ⟨x, h1, rfl, h3⟩ := h
  refine (ins_commits h3 h1 seq).mono ?_
  rintro e w' ⟨c, he, hc, hn, hb, hv, n1, n2, x', e1, e2, e3⟩
  exact ⟨c, he, ⟨hc, hn, hb, hv, n1, n2⟩, x', e1, e2, e3.drop.drop⟩

end

def wk : Nat → In
  | 0 => newI 1 0 4
  | k + 1 => voteI (wk k) 5 1 k 5 [rq 0 1]

theorem wk_end : commI (wk 3) 1 = some ⟨0, 0, 1, [rq 0 1], [(0, 5), (1, 5), (2, 5)]⟩ := by decide +kernel
theorem wk_done : doneI (commitsI (wk 3) 1) = 1 := by decide +kernel

set_option maxHeartbeats 1000000 in
theorem wakes15_any (w : World) : Calls Try.prog 38 #[] w fun e w' => e = .returned (.bool true) ∧ Below w.heap.size w w' := by
  go_enter Try.func38, Try.ntmps38
  go_wp2_with fail
  refine (ai_new 1 0 4 (by omega) (by omega) (by omega) (by omega) (by omega) (by omega) (Own.start (Below.refl w.heap.size w) (Nat.le_refl _))).mono ?_
  rintro e w1 ⟨i, rfl, h1⟩
  have H1 := Lib.hid h1
  clear h1
  go_wp2_with fail
  go_loopw [3] (fun n wr => ∃ k : Nat, k ≤ 3 ∧ n = .int .i64 k ∧ Hid (AtI w.heap.size w wr i (wk k) [])) (fun n _ => 3 - (intOf n).toNat)
  case atStart => exact ⟨0, by omega, rfl, H1⟩
  case round =>
    clear H1
    obtain ⟨k, hk, rfl, H1⟩ := hrel
    by_cases hlt : k < 3
    · have hkI : (k : Int) < 3 := by omega
      have H2 := Lib.hid (ai_vote (H1.out.alloc (rqObj 0 1)) 5 1 k 5 (sl1 wr.heap.size) [rq 0 1] (bat_one (heap_alloc_new wr _)) (by simp))
      go_wp2_with fail
      refine H2.out.mono ?_
      rintro e w2 ⟨rfl, h2⟩
      have H3 := Lib.hid h2
      clear h2
      go_wp2_with fail
      go_roundw
      case rel => exact ⟨k + 1, by omega, by go_num, H3⟩
      case measure => simp [intOf]; omega
    · have hk3 : k = 3 := by omega
      subst hk3
      have H2 := Lib.hid (ai_commits H1.out 1)
      have WD := Lib.hid wk_done
      go_wp2_with fail
      refine H2.out.mono ?_
      rintro e w2 ⟨c, rfl, hc, h2⟩
      rw [wk_end] at hc
      rw [wk_end]
      obtain ⟨ao, cap, co, cav, rfl, -⟩ := told_form hc rfl
      have H3 := Lib.hid (h2.alloc (ctO 0 0 1 (.slice ao 1 cap) (.slice co 3 cav)))
      clear h2 hc H2
      go_wp2_with fail
      refine (ai_done H3.out).mono ?_
      rintro e w' ⟨rfl, rfl⟩
      rw [WD.out]
      go_wp2_with fail
      go_ret
      exact ⟨rfl, H3.out.below⟩

end Go.Proofs.Ytdeadekeffficaa

/- inst: Committed, Prepared. -/
namespace Go.Proofs.Ytdeadekeffficaa
open Go.RowKit Go.Heap

section
variable {B : Nat} {w0 W W' : World} {ss rs : List Res} {x : Ins}

set_option maxHeartbeats 2000000 in
set_option maxRecDepth 100000 in
theorem ins_committed (h : Own B w0 W (instR x :: ss)) {i : Nat} (hi : x.i = i) (seq : Int) : Calls Try.prog 42 #[.pointer (some ⟨i, 0, none⟩), .int .i64 seq] W (CertP B w0 W i (committedI x.st seq) x.st ss) := by
  subst hi
  have hz := own_open (h.box zct).swap
  obtain ⟨-, -, -, -, -, c5, l1, l2⟩ := oi_cells hz
  cases hk : idx seq with
  | none =>
    have hs := idx_none hk
    have HE := Lib.hid (show committedI x.st seq = none by simp [committedI, plAt_none hk])
    have HA := Lib.hid (at_no x.i x.b x.cap seq _ hs c5)
    have H := Lib.hid h
    clear hz h hk hs c5
    go_enter Try.func42, Try.ntmps42
    go_wp2_with fail
    refine HA.out.mono ?_
    rintro e w' ⟨rfl, rfl⟩
    go_wp2_with fail
    exact bodyPost_ret (v := .tuple #[ctAgg noCt, .bool false]) (by simp [results, Try.results42, go_sem, noCt]) rfl (certP_none (H.out.upd0 ((Upd.refl _ _).alloc _)) HE.out rfl)
  | some k =>
    obtain ⟨hl, hp⟩ := plAt_some (oi_ok hz) hk
    obtain ⟨i1, i2⟩ := idx_lt hk
    have HA := Lib.hid (at_yes x.i x.b x.cap seq _ (by omega) (by omega) c5)
    have hks : seq.toNat - 1 = k := by omega
    rw [hks] at HA
    have cd := oi_done hz k hl
    cases hd : x.l[k].done
    · rw [hd] at cd
      have HE := Lib.hid (show committedI x.st seq = none by simp only [committedI, hp]; simp [Pm.pl, hd])
      have H := Lib.hid h
      clear hz h hk hp i2 hks hd c5
      go_enter Try.func42, Try.ntmps42
      go_wp2_with fail
      refine HA.out.mono ?_
      rintro e w' ⟨rfl, rfl⟩
      go_wp2_with fail
      exact bodyPost_ret (v := .tuple #[ctAgg noCt, .bool false]) (by simp [results, Try.results42, go_sem, noCt]) rfl (certP_none (H.out.upd0 ((Upd.refl _ _).alloc _)) HE.out rfl)
    · rw [hd] at cd
      have HCI := Lib.hid (show committedI x.st seq = some x.l[k].dw.cp by simp only [committedI, hp]; simp [Pm.pl, hd])
      have c9 := oi_at hz k hl 9 (by omega)
      have c10 := oi_at hz k hl 10 (by omega)
      have c11 := oi_at hz k hl 11 (by omega)
      have c12 := oi_at hz k hl 12 (by omega)
      have c13 := oi_at hz k hl 13 (by omega)
      simp only [pmCells, List.getElem?_cons_succ, List.getElem?_cons_zero] at c9 c10 c11 c12 c13
      obtain ⟨-, q1, q2, q3, q4⟩ := oi_cert hz k hl
      have HF := Lib.hid (fresh_ct x.l[k].dw _ q1 q3 q2 q4)
      have HZ := Lib.hid hz
      clear hz h hk hp i2 hks hd c5 q1 q2
      generalize x.l[k].dw = c at *
      go_enter Try.func42, Try.ntmps42
      go_wp2_with fail
      refine HA.out.mono ?_
      rintro e w' ⟨rfl, rfl⟩
      go_wp2_with fail
      refine HF.out.mono ?_
      rintro e w5 ⟨⟨view', inst', seq', vb', vv', rs', vs'⟩, rfl, hcp, hu5, hb5, hv5, nb, nv⟩
      simp only at hb5 hv5 nb nv
      obtain ⟨ao6, cap6, rfl⟩ := bat_form hb5
      obtain ⟨co6, cav6, rfl⟩ := vts_form hv5
      have H5 := Lib.hid ((own_red2 (own_shut HZ.out).swap hu5 hb5 hv5 nb nv).rot)
      have HCP := Lib.hid hcp
      have HB5 := Lib.hid hb5
      have HV5 := Lib.hid hv5
      have NB := Lib.hid nb
      have NV := Lib.hid nv
      clear hcp hu5 hb5 hv5 nb nv HZ HF c9 c10 c11 c12 c13 cd
      obtain ⟨f0, f1, f2, f3, f4, fl, fz⟩ := ct_cells H5.out.blk_out
      have fz0 := fz 0
      have fz1 := fz 1
      have fz2 := fz 2
      have fz3 := fz 3
      have fz4 := fz 4
      clear fz
      go_wp2_with fail
      have H6 := Lib.hid (own_st5 H5.out view' inst' seq' (.slice ao6 rs'.length cap6) (.slice co6 vs'.length cav6))
      have HU6 := Lib.hid (upd_st5 w5 W.heap.size view' inst' seq' (.slice ao6 rs'.length cap6) (.slice co6 vs'.length cav6))
      generalize ((((w5.setCell ⟨W.heap.size, 0, none⟩ (.int .i64 view')).setCell ⟨W.heap.size, 1, none⟩ (.int .i64 inst')).setCell ⟨W.heap.size, 2, none⟩ (.int .i64 seq')).setCell ⟨W.heap.size, 3, none⟩ (.slice ao6 rs'.length cap6)).setCell ⟨W.heap.size, 4, none⟩ (.slice co6 vs'.length cav6) = w6 at *
      clear f0 f1 f2 f3 f4 fl fz0 fz1 fz2 fz3 fz4 H5
      obtain ⟨f0, f1, f2, f3, f4, fl, -⟩ := ct_cells H6.out.blk_out
      refine bodyPost_ret (v := .tuple #[ctAgg ⟨view', inst', seq', .slice ao6 rs'.length cap6, .slice co6 vs'.length cav6, rs', vs'⟩, .bool true]) (by simp [results, Try.results42, go_sem, f0, f1, f2, f3, f4]) rfl ?_
      have hcp := HCP.out
      have e4 : rs' = c.rs := congrArg Cp.rs hcp
      have e5 : vs' = c.vs := congrArg Cp.vs hcp
      have hnew : ∀ (v : Value), (∀ k ∈ blkOf v, (W.alloc zct).heap.size ≤ k) → (∀ k ∈ blkOf v, W.heap.size ≤ k) ∧ ∀ k ∈ blkOf v, k ∉ [W.heap.size] := fun v hv => ⟨fun k hk => by have := hv k hk; simp at this; omega, fun k hk hn => by have := hv k hk; simp at this hn; omega⟩
      refine ⟨⟨view', inst', seq', .slice ao6 rs'.length cap6, .slice co6 vs'.length cav6, rs', vs'⟩, ?_, ?_, ⟨by simp only [e4]; exact q3, by simp only [e5]; exact q4⟩, HB5.out.upd HU6.out (hnew _ NB.out).2, Reads.upd HV5.out HU6.out (hnew _ NV.out).2, (hnew _ NB.out).1, (hnew _ NV.out).1, x, rfl, rfl, H6.out.drop⟩
      · rw [HCI.out]; rfl
      · rw [HCI.out]; exact hcp

theorem ai_committed {i : Nat} {st : In} (h : AtI B w0 W i st ss) (seq : Int) : Calls Try.prog 42 #[.pointer (some ⟨i, 0, none⟩), .int .i64 seq] W fun e w' => ∃ c : Ct, e = .returned (.tuple #[ctAgg c, .bool (committedI st seq).isSome]) ∧ Told W w' (committedI st seq) c ∧ AtI B w0 w' i st ss := by
  obtain ⟨x, h1, rfl, h3⟩ := h
  refine (ins_committed h3 h1 seq).mono ?_
  rintro e w' ⟨c, he, hc, hn, hb, hv, n1, n2, x', e1, e2, e3⟩
  exact ⟨c, he, ⟨hc, hn, hb, hv, n1, n2⟩, x', e1, e2, e3.drop.drop⟩

end
end Go.Proofs.Ytdeadekeffficaa

/- InstGaps: the plain laws. -/
namespace Go.Proofs.Ytdeadekeffficaa
open Go.RowKit Go.Heap

theorem upd_upd (st : In) (k : Nat) (f g : Pl → Pl) : (st.upd k f).upd k g = st.upd k (fun p => g (f p)) := by
  simp only [In.upd, In.mk.injEq, true_and]
  apply List.ext_getElem?
  intro j
  simp only [List.getElem?_modify]
  by_cases e : k = j
  · subst e
    cases st.l[k]? <;> simp
  · simp [e]

theorem upd_congr {st : In} {k : Nat} {f g : Pl → Pl} (h : ∀ p, st.l[k]? = some p → f p = g p) : st.upd k f = st.upd k g := by
  simp only [In.upd, In.mk.injEq, true_and]
  apply List.ext_getElem?
  intro j
  simp only [List.getElem?_modify]
  by_cases e : k = j
  · subst e
    cases hq : st.l[k]? with
    | none => simp
    | some p => simp [h p hq]
  · simp [e]

theorem upd_id {st : In} {k : Nat} {f : Pl → Pl} (h : ∀ p, st.l[k]? = some p → f p = p) : st.upd k f = st := by
  rw [upd_congr (g := id) (by simpa using h), In.upd, List.modify_id]

theorem upd_at {st : In} {k : Nat} {f : Pl → Pl} : (st.upd k f).l[k]? = st.l[k]?.map f := by
  simp [In.upd]

def cs3 (b : List Rq) (n : Nat) : List Vt := (List.range 4).map fun i => if i < n then ⟨true, 1, b⟩ else noVt
def vPl (k n : Nat) : Pl := { emptyPl 1 with sl := { emptySl 1 with cs := cs3 [rq 0 k] n } }
def gCp (k : Nat) : Cp := ⟨0, 0, k, [rq 0 k], [(0, 1), (1, 1), (2, 1)]⟩
def gPl (k : Nat) : Pl := { vPl k 3 with done := true, dw := gCp k }
/-- Those of h are committed. -/
def gp (h : Nat → Bool) : In := ⟨1, 0, 1, 0, true, (List.range 16).map fun j => if h (j + 1) then gPl (j + 1) else emptyPl 1⟩
/-- n votes for k have come. -/
def vk (h : Nat → Bool) (k n : Nat) : In := (gp h).upd (k - 1) fun p => if h k then p else vPl k n

theorem gp_at (h : Nat → Bool) (k : Nat) (h1 : 1 ≤ k) (h2 : k ≤ 16) : (gp h).l[k - 1]? = some (if h k then gPl k else emptyPl 1) := by
  simp only [gp, List.getElem?_map, List.getElem?_range (show k - 1 < 16 by omega), Option.map_some, show k - 1 + 1 = k by omega]

theorem vk_at (h : Nat → Bool) (k n : Nat) (h1 : 1 ≤ k) (h2 : k ≤ 16) : (vk h k n).l[k - 1]? = some (if h k then gPl k else vPl k n) := by
  rw [vk, upd_at, gp_at h k h1 h2]
  cases h k <;> rfl

theorem gp_new : newI 1 0 1 = gp (fun _ => false) := rfl
theorem vk_zero (h : Nat → Bool) (k : Nat) (h1 : 1 ≤ k) (h2 : k ≤ 16) : vk h k 0 = gp h := by
  refine upd_id fun p hp => ?_
  rw [gp_at h k h1 h2] at hp
  simp only [Option.some.injEq] at hp
  subst hp
  cases h k <;> rfl

theorem idx_nat (k : Nat) (h1 : 1 ≤ k) (h2 : k ≤ 16) : idx (k : Int) = some (k - 1) := by
  rw [idx_of (by omega) (by omega)]
  simp

theorem vk_vote (h : Nat → Bool) (k n : Nat) (h1 : 1 ≤ k) (h2 : k ≤ 16) (hn : n < 3) : voteI (vk h k n) 5 k n 1 [rq 0 k] = vk h k (n + 1) := by
  unfold voteI
  rw [idx_nat k h1 h2]
  simp only [show (vk h k n).on = true from rfl, if_true]
  rw [vk, upd_upd, vk]
  refine upd_congr fun p hp => ?_
  rw [gp_at h k h1 h2] at hp
  simp only [Option.some.injEq] at hp
  subst hp
  cases h k
  · match n, hn with
    | 0, _ => simp [voteS, canVote, listOf, openB, vPl, cs3, emptyPl, noVt, List.range, List.range.loop]
    | 1, _ => simp [voteS, canVote, listOf, openB, vPl, cs3, emptyPl, noVt, List.range, List.range.loop]
    | 2, _ => simp [voteS, canVote, listOf, openB, vPl, cs3, emptyPl, noVt, List.range, List.range.loop]
  · match n, hn with
    | 0, _ => simp [voteS, canVote, listOf, openB, gPl, vPl, cs3, noVt, List.range, List.range.loop]
    | 1, _ => simp [voteS, canVote, listOf, openB, gPl, vPl, cs3, noVt, List.range, List.range.loop]
    | 2, _ => simp [voteS, canVote, listOf, openB, gPl, vPl, cs3, noVt, List.range, List.range.loop]

theorem vPl_comm (k : Nat) : committedS 1 (vPl k 3).sl = some ([rq 0 k], [(0, 1), (1, 1), (2, 1)]) := by
  simp [committedS, committedL, enoughS, picks, goodB, vPl, cs3, noVt, List.range, List.range.loop]

theorem vk_comm (h : Nat → Bool) (k : Nat) (h1 : 1 ≤ k) (h2 : k ≤ 16) : commI (vk h k 3) k = if h k then none else some (gCp k) := by
  unfold commI plAt
  rw [idx_nat k h1 h2, Option.bind_some, vk_at h k 3 h1 h2]
  cases hk : h k
  · simp only [Bool.false_eq_true, if_false]
    rw [show (vk h k 3).f = 1 from rfl, vPl_comm]
    rfl
  · rfl

def addH (h : Nat → Bool) (m : Nat) : Nat → Bool := fun j => h j || decide (j = m)
theorem addH_self (h : Nat → Bool) (m : Nat) : addH h m m = true := by simp [addH]

theorem vk_commits (h : Nat → Bool) (k : Nat) (h1 : 1 ≤ k) (h2 : k ≤ 16) : commitsI (vk h k 3) k = gp (addH h k) := by
  unfold commitsI
  rw [idx_nat k h1 h2, vk_comm h k h1 h2]
  cases hk : h k
  · simp only [Bool.false_eq_true, if_false]
    rw [vk, upd_upd]
    simp only [In.upd, gp, In.mk.injEq, true_and]
    apply List.ext_getElem?
    intro j
    simp only [List.getElem?_modify, List.getElem?_map]
    by_cases hj : j < 16
    · rw [List.getElem?_range hj]
      simp only [Option.map_some]
      by_cases e : k - 1 = j
      · subst e
        have e2 : k - 1 + 1 = k := by omega
        simp only [e2, addH_self, if_true, hk]
        rfl
      · have e3 : addH h k (j + 1) = h (j + 1) := by simp [addH]; omega
        simp only [if_neg e, e3]
        rfl
    · rw [List.getElem?_eq_none (by simpa using hj)]
      rfl
  · simp only [if_true]
    have e : addH h k = h := by
      funext j
      simp only [addH]
      by_cases e : j = k
      · subst e; simp [hk]
      · simp [e]
    rw [e]
    exact upd_id fun p _ => by simp [hk]

def has18 (h : Nat → Bool) : Obj := .cells ((List.range 18).map fun k => .bool (h k)).toArray 67 (0, 0)

theorem has18_cell {W : World} {b : Nat} {h : Nat → Bool} (hb : W.heap[b]? = some (has18 h)) (k : Nat) (hk : k < 18) : W.cell? ⟨b, k, none⟩ = some (.bool (h k)) := by
  rw [block_cell hb]; simp [hk]

theorem has18_set (h : Nat → Bool) (m : Nat) : setIn m (.bool true) (has18 h) = has18 (addH h m) := by
  simp only [has18, setIn, Obj.cells.injEq, and_true]
  apply Array.ext'
  apply List.ext_getElem?
  intro j
  simp only [Array.toList_setIfInBounds, List.getElem?_set, List.getElem?_map]
  by_cases e : m = j
  · subst e
    by_cases hm : m < 18
    · simp [hm, addH]
    · simp [hm]
  · by_cases hj : j < 18
    · simp [e, hj, addH]
      omega
    · simp [e, hj]

/-- No number but those from 1 to 16. -/
def Only (h : Nat → Bool) : Prop := ∀ j, h j = true → 1 ≤ j ∧ j ≤ 16

theorem only_add {h : Nat → Bool} {m : Nat} (ho : Only h) (h1 : 1 ≤ m) (h2 : m ≤ 16) : Only (addH h m) := by
  intro j hj
  simp only [addH, Bool.or_eq_true, decide_eq_true_eq] at hj
  rcases hj with hj | rfl
  · exact ho j hj
  · exact ⟨h1, h2⟩

/-- What is done: what stands from 1 on without a gap. -/
theorem gp_done (h : Nat → Bool) (n : Nat) (hn : n ≤ 16) (h1 : ∀ j, 1 ≤ j → j ≤ n → h j = true) (h2 : n < 16 → h (n + 1) = false) : doneI (gp h) = n := by
  refine take_while _ n (fun j hj hjn => ?_) (by simp [gp]; omega) (fun hj => ?_)
  · simp only [gp, List.getElem_map, List.getElem_range]
    rw [if_pos (h1 (j + 1) (by omega) (by omega))]
    rfl
  · simp only [gp, List.getElem_map, List.getElem_range]
    rw [if_neg (by rw [h2 (by simpa [gp] using hj)]; simp)]
    rfl

end Go.Proofs.Ytdeadekeffficaa

/- inst: Leave. -/
namespace Go.Proofs.Ytdeadekeffficaa
open Go.RowKit Go.Heap

section
variable {B : Nat} {w0 W W' : World} {ss rs : List Res} {x : Ins}

/-- One cell of a place is stored that leads nowhere. -/
theorem oi_put {k r : Nat} {v : Value} {p : Pm} (h : OwnI B w0 W x ss) (hk : k < x.l.length) (hl : p.lc = x.l[k].lc) (hs : p.sl = x.l[k].sl) (hc : p.ct = x.l[k].ct ∧ p.dw = x.l[k].dw) (hr : r < 14) (hcells : pmCells p = (pmCells x.l[k]).set r v) :
    OwnI B w0 (W.setCell ⟨x.b, k * 14 + r, none⟩ v) (x.sl k p) ss := by
  have h1 : Own B w0 (W.setCell ⟨x.b, k * 14 + r, none⟩ v) (segR x.b 122 ((x.l.flatMap pmCells).set (k * 14 + r) v) :: blk x.i x.o :: certsR x :: (x.l.map pmR ++ ss)) := Own.put (Own.swap h) (k * 14 + r) v
  rw [flat_set (cells := pmCells) (sz := 14) (fun _ => rfl) x.l k r x.l[k] p v (by simp) hr hcells] at h1
  have h2 : Own B w0 (W.setCell ⟨x.b, k * 14 + r, none⟩ v) (certsR x :: segR x.b 122 ((x.l.set k p).flatMap pmCells) :: blk x.i x.o :: (x.l.map pmR ++ ss)) := h1.rot
  have h3 := h2.alter (r' := certsR (x.sl k p)) (by
    obtain ⟨D, ⟨⟨q1, q2⟩, q3⟩, q4, q5⟩ := h2.head
    refine ⟨D, ⟨⟨⟨by simpa using q1.n, q1.f1, q1.f2, fun p' hp' => ?_, q1.c1, q1.a1, q1.a2, q1.vw⟩, fun p' hp' => ?_⟩, q3⟩, q4, q5⟩
    · rcases List.mem_or_eq_of_mem_set hp' with hp' | rfl
      · exact q1.lf p' hp'
      · rw [hl]; exact q1.lf _ (by simp)
    · rcases List.mem_or_eq_of_mem_set hp' with hp' | rfl
      · exact q2 p' hp'
      · rw [hc.1, hc.2]; exact q2 _ (by simp)) (by simp [certsR, imm])
  have hmap : (x.l.set k p).map pmR = x.l.map pmR := by
    rw [List.map_set, show pmR p = pmR x.l[k] by simp [pmR, hl, hs]]
    conv => lhs; arg 3; rw [← List.getElem_map (f := pmR) (h := by simpa using hk)]
    exact List.set_getElem_self _
  show Own B w0 _ (insHd (x.sl k p) ++ ((x.l.set k p).map pmR ++ ss))
  rw [hmap]
  exact h3.swap.rot

/-- The instance's own block is stored. -/
theorem oi_hd {view : Int} {on : Bool} (h : Own B w0 W (blk x.i (insO x.f x.num x.ahead view on (.slice (some ⟨x.b, 0, none⟩) 16 x.cap)) :: segR x.b 122 (x.l.flatMap pmCells) :: certsR x :: (x.l.map pmR ++ ss))) (hv : 0 ≤ view ∧ view ≤ 12) :
    OwnI B w0 W { x with view := view, on := on } ss := by
  have h2 := h.rot
  have h3 := h2.alter (r' := certsR { x with view := view, on := on }) (by
    obtain ⟨D, ⟨⟨q1, q2⟩, q3⟩, q4, q5⟩ := h2.head
    exact ⟨D, ⟨⟨⟨q1.n, q1.f1, q1.f2, q1.lf, q1.c1, q1.a1, q1.a2, hv⟩, q2⟩, q3⟩, q4, q5⟩) (by simp [certsR, imm])
  exact h3.rot'

def clr (f : Nat) (p : Pl) : Pl := { p with sl := emptySl f, told := false }
/-- A view is left: k slots are empty already. -/
def lvI (st : In) (v : Int) (k : Nat) : In := { st with view := v, on := false, l := (st.l.take k).map (clr st.f) ++ st.l.drop k }

theorem lv_step (st : In) (v : Int) (k : Nat) (hk : k < st.l.length) : (lvI st v k).upd k (clr st.f) = lvI st v (k + 1) := by
  simp only [In.upd, lvI, In.mk.injEq, true_and]
  apply List.ext_getElem?
  intro j
  have hlen : ((st.l.take k).map (clr st.f)).length = k := by simp; omega
  have hlen2 : ((st.l.take (k + 1)).map (clr st.f)).length = k + 1 := by simp; omega
  rw [List.getElem?_modify]
  by_cases h1 : j < k
  · rw [List.getElem?_append_left (by omega), List.getElem?_append_left (by omega)]
    simp only [if_neg (show ¬ k = j by omega), List.getElem?_map, List.getElem?_take_of_lt h1, List.getElem?_take_of_lt (show j < k + 1 by omega)]
    cases st.l[j]? <;> rfl
  · by_cases h2 : j = k
    · subst h2
      rw [List.getElem?_append_right (by omega), List.getElem?_append_left (by omega), hlen]
      simp [List.getElem?_eq_getElem hk]
    · rw [List.getElem?_append_right (by omega), List.getElem?_append_right (by omega), hlen, hlen2]
      simp only [if_neg (show ¬ k = j by omega), List.getElem?_drop]
      rw [show k + (j - k) = j by omega, show k + 1 + (j - (k + 1)) = j by omega]
      cases st.l[j]? <;> rfl

theorem lv_zero (st : In) (v : Int) : lvI st v 0 = { st with view := v, on := false } := by simp [lvI]
theorem lvI_all (st : In) (v : Int) (h : leaveB st v = true) : lvI st v st.l.length = leaveI st v := by
  unfold leaveI
  rw [if_pos h]
  simp [lvI, clr]

set_option maxHeartbeats 2000000 in
set_option maxRecDepth 100000 in
theorem ai_leave {i : Nat} {st : In} (h : AtI B w0 W i st ss) (v : Int) : Calls Try.prog 41 #[.pointer (some ⟨i, 0, none⟩), .int .i64 v] W fun e w' => e = .returned (.bool (leaveB st v)) ∧ AtI B w0 w' i (leaveI st v) ss := by
  obtain ⟨x, h1, hst, h3⟩ := h
  have ho := own_open h3
  obtain ⟨-, -, -, c3, c4, c5, l1, l2⟩ := oi_cells ho
  obtain ⟨-, fz⟩ := oi_fz ho
  have hvw : x.view = st.view := by rw [← hst]; rfl
  have z3 := fz 3
  have z4 := fz 4
  have hn := (oi_ok ho).n
  have hvw2 := (oi_ok ho).vw
  rw [h1] at c3 c4 c5 l1 z3 z4
  by_cases hle : v ≤ x.view
  · have HE := Lib.hid (show leaveB st v = false by simp [leaveB]; omega)
    have H := Lib.hid (show AtI B w0 W i st ss from ⟨x, h1, hst, h3⟩)
    clear h3 ho fz z3 z4 c4 c5 hvw hn hst
    go_enter Try.func41, Try.ntmps41
    go_wp2_with fail
    go_ret
    rw [HE.out, leaveI, if_neg (by rw [HE.out]; simp)]
    exact ⟨rfl, H.out⟩
  · have hleb : decide (v ≤ x.view) = false := by simp; omega
    by_cases h12 : 12 < v
    · have HE := Lib.hid (show leaveB st v = false by simp [leaveB]; omega)
      have H := Lib.hid (show AtI B w0 W i st ss from ⟨x, h1, hst, h3⟩)
      clear h3 ho fz z3 z4 c4 c5 hvw hn hst
      go_enter Try.func41, Try.ntmps41
      go_wp2_with fail
      go_ret
      rw [HE.out, leaveI, if_neg (by rw [HE.out]; simp)]
      exact ⟨rfl, H.out⟩
    · have h12b : decide (12 < v) = false := by simp; omega
      have HE := Lib.hid (show leaveB st v = true by simp [leaveB]; omega)
      have hstn : st.l.length = 16 := by rw [← hst]; simp [Ins.st, hn]
      have HLA := Lib.hid (by have := lvI_all st v HE.out; rwa [hstn] at this)
      have HLS := Lib.hid (fun k hk => lv_step st v k (by rw [hstn]; exact hk))
      have hz := oi_hd (x := x) (view := v) (on := false) ((Own.store ho 3 (.int .i64 v)).store 4 (.bool false)) (by omega)
      have H1 : Hid (AtI B w0 ((W.setCell ⟨i, 3, none⟩ (.int .i64 v)).setCell ⟨i, 4, none⟩ (.bool false)) i (lvI st v 0) ss) := Lib.hid (by
        rw [lv_zero]
        refine ⟨{ x with view := v, on := false }, h1, ?_, ?_⟩
        · rw [← hst]; rfl
        · rw [← h1]; exact own_shut hz)
      clear hz h3 ho fz hvw hst hvw2 hn hstn h1
      go_enter Try.func41, Try.ntmps41
      go_wp2_with fail
      generalize (W.setCell ⟨i, 3, none⟩ (.int .i64 v)).setCell ⟨i, 4, none⟩ (.bool false) = w1 at *
      clear c3 c4 c5 z3 z4 hleb h12b l1 l2 hle h12
      go_loopw [28] (fun n wr => ∃ k : Nat, k ≤ 16 ∧ n = .int .i64 k ∧ Hid (AtI B w0 wr i (lvI st v k) ss)) (fun n _ => 16 - (intOf n).toNat)
      case atStart => exact ⟨0, by omega, rfl, H1⟩
      case round =>
        clear H1
        obtain ⟨k, hk, rfl, HK⟩ := hrel
        by_cases hlt : k < 16
        · have hkI : (k : Int) < 16 := by omega
          obtain ⟨y, hy1, hy2, hy3⟩ := HK.out
          have hoy := own_open hy3
          obtain ⟨-, -, -, -, -, c5, -, -⟩ := oi_cells hoy
          rw [hy1] at c5
          have hl : k < y.l.length := by rw [(oi_ok hoy).n]; exact hlt
          have cp := oi_ptr hoy k hl
          have hlf : y.l[k].lc.f = st.f := by rw [(oi_ok hoy).lf _ (by simp)]; exact congrArg In.f hy2
          have HLF := Lib.hid hlf
          have HC := Lib.hid (own_reset (oi_pick hoy k hl))
          have HY1 := Lib.hid hy1
          have HY2 := Lib.hid hy2
          clear hoy hy3 hy1 hy2 hlf
          go_wp2_with fail
          refine HC.out.mono ?_
          rintro e w2 ⟨L', rfl, hf, hs, -, h2⟩
          have h4 := oi_unpick k hl { y.l[k] with lc := L', sl := emptySl y.l[k].lc.f } h2 (by simp [pmCells, hs]) ⟨rfl, rfl⟩ hf
          have H4 := Lib.hid h4
          have hl4 : k < (y.sl k { y.l[k] with lc := L', sl := emptySl y.l[k].lc.f }).l.length := by simpa using hl
          have ht := oi_told h4 k hl4
          obtain ⟨-, -, -, -, -, c5', -, -⟩ := oi_cells h4
          have fz := (oi_fz h4).1 (k * 14 + 1)
          have c5' : w2.cell? ⟨i, 5, none⟩ = some (.slice (some ⟨y.b, 0, none⟩) 16 y.cap) := by rw [← HY1.out]; exact c5'
          clear h2 h4 hf hs HC cp c5
          go_wp2_with fail
          have h5 := oi_put (r := 1) (v := .bool false) (p := { (y.sl k { y.l[k] with lc := L', sl := emptySl y.l[k].lc.f }).l[k] with told := false }) H4.out hl4 rfl rfl ⟨rfl, rfl⟩ (by omega) rfl
          have H5 : Hid (AtI B w0 (w2.setCell ⟨y.b, k * 14 + 1, none⟩ (.bool false)) i (lvI st v (k + 1)) ss) := Lib.hid ⟨(y.sl k { y.l[k] with lc := L', sl := emptySl y.l[k].lc.f }).sl k { (y.sl k { y.l[k] with lc := L', sl := emptySl y.l[k].lc.f }).l[k] with told := false }, HY1.out, by
            rw [st_set _ k hl4 _ (fun p => { p with told := false }) rfl, st_set y k hl _ (fun p => { p with sl := emptySl y.l[k].lc.f }) rfl, upd_upd, HY2.out, HLF.out]
            exact HLS.out k hlt, own_shut h5⟩
          clear h5 ht fz c5'
          go_roundw
          case rel => exact ⟨k + 1, by omega, by go_num, H5⟩
          case measure => simp [intOf]; omega
        · have hk16 : k = 16 := by omega
          subst hk16
          go_wp2_with fail
          go_ret
          rw [HE.out, ← HLA.out]
          exact ⟨rfl, HK.out⟩

end
end Go.Proofs.Ytdeadekeffficaa

/- reqs.Has; inst: Used. -/
namespace Go.Proofs.Ytdeadekeffficaa
open Go.RowKit Go.Heap

abbrev rqBox (r : Rq) : Obj := .cells #[.int .i64 r.client, .int .i64 r.time, .int .i64 r.kind, .int .i64 r.key, .int .i64 r.val, .int .i64 r.sl] 32 (0, 0)

theorem rq_cells {w : World} {b : Nat} {r : Rq} (h : w.heap[b]? = some (rqBox r)) : w.cell? ⟨b, 0, none⟩ = some (.int .i64 r.client) ∧ w.cell? ⟨b, 1, none⟩ = some (.int .i64 r.time) ∧ w.cell? ⟨b, 2, none⟩ = some (.int .i64 r.kind) ∧
    w.cell? ⟨b, 3, none⟩ = some (.int .i64 r.key) ∧ w.cell? ⟨b, 4, none⟩ = some (.int .i64 r.val) ∧ w.cell? ⟨b, 5, none⟩ = some (.int .i64 r.sl) :=
  ⟨by rw [block_cell h]; rfl, by rw [block_cell h]; rfl, by rw [block_cell h]; rfl, by rw [block_cell h]; rfl, by rw [block_cell h]; rfl, by rw [block_cell h]; rfl⟩

def NoneIn (r : Rq) (l : List Rq) (k : Nat) : Prop := ∀ j (hj : j < l.length), j < k → l[j] ≠ r

set_option maxHeartbeats 1000000 in
set_option maxRecDepth 100000 in
theorem has_any (v : Value) (l : List Rq) (r : Rq) (w : World) (hn : l.length ≤ 100000) (h : Bat w v l) :
    Calls Try.prog 68 #[v, .agg #[.int .i64 r.client, .int .i64 r.time, .int .i64 r.kind, .int .i64 r.key, .int .i64 r.val, .int .i64 r.sl]] w fun e w' => e = .returned (.bool (decide (r ∈ l))) ∧ Upd [] w w' := by
  obtain ⟨ao, cap, rfl, h1, h2, h3, h4, h5⟩ := h
  clear h1 h2 h3 h4
  have H5 := Lib.hid h5
  clear h5
  have H0 := Lib.hid ((Own.start (Below.refl w.heap.size w) (Nat.le_refl _)).box (rqBox r))
  go_enter Try.func68, Try.ntmps68
  go_wp2_with fail
  go_loopw [9] (fun i wr => ∃ k : Nat, k ≤ l.length ∧ i = .int .i64 k ∧ Hid (NoneIn r l k) ∧ Hid (Own w.heap.size w wr [blk w.heap.size (rqBox r)])) (fun i _ => l.length - (intOf i).toNat)
  case atStart => exact ⟨0, by omega, rfl, Lib.hid (by intro j _ hj; omega), H0⟩
  case round =>
    clear H0
    obtain ⟨k, hk, rfl, HN, H1⟩ := hrel
    by_cases hlt : k < l.length
    · have hkI : (k : Int) < (l.length : Int) := by omega
      obtain ⟨b, o, rfl, hbs, hc⟩ := H5.out (by omega)
      obtain ⟨q0, q1, q2, q3, q4, q5⟩ := bat_cells (cells_below H1.out.below hbs hc) k l[k] (by simp)
      clear hc
      have hbx := H1.out.blk_out
      obtain ⟨p0, p1, p2, p3, p4, p5⟩ := rq_cells hbx
      have hlb := block_lt hbx
      have hz := H1.out.below.size
      clear hbx
      have H2 := Lib.hid (H1.out.alloc (rqBox l[k]))
      by_cases he : l[k] = r
      · have heq : ∀ wx, (Op.equalIn 10000 32 (rqAgg l[k]) (rqAgg r)).run Try.prog wx = .ok true wx := fun wx => by rw [run_equal_req]; simp [he]
        have HE := Lib.hid he
        clear he
        unfold rqAgg at heq
        have hgd := Try.guardReq
        go_wp2_with fail
        go_ret
        refine ⟨ret_bool ?_, Upd.of_below H2.out.below⟩
        symm
        rw [decide_eq_true_iff, ← HE.out]
        exact List.getElem_mem hlt
      · have heq : ∀ wx, (Op.equalIn 10000 32 (rqAgg l[k]) (rqAgg r)).run Try.prog wx = .ok false wx := fun wx => by rw [run_equal_req]; simp [he]
        have HE := Lib.hid he
        clear he
        unfold rqAgg at heq
        have hgd := Try.guardReq
        go_wp2_with fail
        go_roundw
        case rel =>
          refine ⟨k + 1, by omega, by go_num, Lib.hid (fun j hj hjk => ?_), H2⟩
          by_cases e : j = k
          · subst e; exact HE.out
          · exact HN.out j hj (by omega)
        case measure => simp [intOf]; omega
    · have hkl : k = l.length := by omega
      subst hkl
      have hkI : ¬ (l.length : Int) < (l.length : Int) := by omega
      go_wp2_with fail
      go_ret
      refine ⟨ret_bool ?_, Upd.of_below H1.out.below⟩
      symm
      rw [decide_eq_false_iff_not]
      intro hm
      obtain ⟨j, hj, e⟩ := List.getElem_of_mem hm
      exact HN.out j hj hj e

def NoneP (r : Rq) (l : List Pm) (k : Nat) : Prop := ∀ j (hj : j < l.length), j < k → usedP r l[j].pl = false

section
variable {B : Nat} {w0 W W' : World} {ss rs : List Res}

abbrev pmO (p : Pm) : Obj := .cells #[p.lc.ptr, .bool p.told, .bool p.has, .int .i64 p.ct.view, .int .i64 p.ct.inst, .int .i64 p.ct.seq, p.ct.vb, p.ct.vv, .bool p.done, .int .i64 p.dw.view, .int .i64 p.dw.inst, .int .i64 p.dw.seq, p.dw.vb, p.dw.vv] 122 (0, 0)

theorem oi_row {x : Ins} (h : OwnI B w0 W x ss) (k : Nat) (hk : k < x.l.length) : W.cell? ⟨x.b, k * 14, none⟩ = some x.l[k].lc.ptr ∧ W.cell? ⟨x.b, k * 14 + 1, none⟩ = some (.bool x.l[k].told) ∧ W.cell? ⟨x.b, k * 14 + 2, none⟩ = some (.bool x.l[k].has) ∧
    W.cell? ⟨x.b, k * 14 + 3, none⟩ = some (.int .i64 x.l[k].ct.view) ∧ W.cell? ⟨x.b, k * 14 + 4, none⟩ = some (.int .i64 x.l[k].ct.inst) ∧ W.cell? ⟨x.b, k * 14 + 5, none⟩ = some (.int .i64 x.l[k].ct.seq) ∧ W.cell? ⟨x.b, k * 14 + 6, none⟩ = some x.l[k].ct.vb ∧ W.cell? ⟨x.b, k * 14 + 7, none⟩ = some x.l[k].ct.vv ∧
    W.cell? ⟨x.b, k * 14 + 8, none⟩ = some (.bool x.l[k].done) ∧ W.cell? ⟨x.b, k * 14 + 9, none⟩ = some (.int .i64 x.l[k].dw.view) ∧ W.cell? ⟨x.b, k * 14 + 10, none⟩ = some (.int .i64 x.l[k].dw.inst) ∧ W.cell? ⟨x.b, k * 14 + 11, none⟩ = some (.int .i64 x.l[k].dw.seq) ∧ W.cell? ⟨x.b, k * 14 + 12, none⟩ = some x.l[k].dw.vb ∧ W.cell? ⟨x.b, k * 14 + 13, none⟩ = some x.l[k].dw.vv :=
  ⟨oi_at h k hk 0 (by omega), oi_at h k hk 1 (by omega), oi_at h k hk 2 (by omega), oi_at h k hk 3 (by omega), oi_at h k hk 4 (by omega), oi_at h k hk 5 (by omega), oi_at h k hk 6 (by omega), oi_at h k hk 7 (by omega), oi_at h k hk 8 (by omega), oi_at h k hk 9 (by omega), oi_at h k hk 10 (by omega), oi_at h k hk 11 (by omega), oi_at h k hk 12 (by omega), oi_at h k hk 13 (by omega)⟩

theorem pm_cells {w : World} {b : Nat} {p : Pm} (h : w.heap[b]? = some (pmO p)) : w.cell? ⟨b, 0, none⟩ = some p.lc.ptr ∧ w.cell? ⟨b, 2, none⟩ = some (.bool p.has) ∧ w.cell? ⟨b, 8, none⟩ = some (.bool p.done) ∧ w.cell? ⟨b, 12, none⟩ = some p.dw.vb :=
  ⟨by rw [block_cell h]; rfl, by rw [block_cell h]; rfl, by rw [block_cell h]; rfl, by rw [block_cell h]; rfl⟩

theorem ct_shape {x : Ins} (h : OwnI B w0 W x ss) (k : Nat) (hk : k < x.l.length) : ∃ a1 c1 a2 c2 a3 c3 a4 c4, x.l[k].ct.vb = .slice a1 x.l[k].ct.rs.length c1 ∧ x.l[k].ct.vv = .slice a2 x.l[k].ct.vs.length c2 ∧ x.l[k].dw.vb = .slice a3 x.l[k].dw.rs.length c3 ∧ x.l[k].dw.vv = .slice a4 x.l[k].dw.vs.length c4 := by
  obtain ⟨⟨h1, h2, _⟩, h3, h4, _⟩ := oi_cert h k hk
  obtain ⟨a1, c1, e1⟩ := bat_form h1
  obtain ⟨a2, c2, e2⟩ := vts_form h2
  obtain ⟨a3, c3, e3⟩ := bat_form h3
  obtain ⟨a4, c4, e4⟩ := vts_form h4
  exact ⟨a1, c1, a2, c2, a3, c3, a4, c4, e1, e2, e3, e4⟩

theorem any_of {x : Ins} {r : Rq} {k : Nat} (hk : k < x.l.length) (h : usedP r x.l[k].pl = true) : usedI x.st r = true := by
  simp only [usedI, Ins.st, List.any_map, List.any_eq_true]
  exact ⟨x.l[k], by simp, h⟩
theorem any_none {x : Ins} {r : Rq} (hn : x.l.length = 16) (h : NoneP r x.l 16) : usedI x.st r = false := by
  simp only [usedI, Ins.st, List.any_map, List.any_eq_false]
  intro p hp
  obtain ⟨j, hj, rfl⟩ := List.getElem_of_mem hp
  simpa using h j hj (by omega)

set_option maxHeartbeats 2000000 in
set_option maxRecDepth 100000 in
theorem ai_used {i : Nat} {st : In} (h : AtI B w0 W i st ss) (r : Rq) : Calls Try.prog 43 #[.pointer (some ⟨i, 0, none⟩), .agg #[.int .i64 r.client, .int .i64 r.time, .int .i64 r.kind, .int .i64 r.key, .int .i64 r.val, .int .i64 r.sl]] W fun e w' => e = .returned (.bool (usedI st r)) ∧ Upd [] W w' := by
  obtain ⟨x, rfl, rfl, h3⟩ := h
  have h0 := own_open (h3.box (rqBox r)).swap
  have hu0 : Upd [] W (W.alloc (rqBox r)) := (Upd.refl _ _).alloc _
  have H0 := Lib.hid h0
  have HU0 := Lib.hid hu0
  have HN := Lib.hid (oi_ok h0).n
  obtain ⟨-, -, -, -, -, c5, l1, l2⟩ := oi_cells h0
  clear h3 h0 hu0
  go_enter Try.func43, Try.ntmps43
  go_wp2_with fail
  generalize W.alloc (rqBox r) = w1 at *
  go_loopw [14] (fun n wr => ∃ k : Nat, k ≤ 16 ∧ n = .int .i64 k ∧ Hid (NoneP r x.l k) ∧ Hid (Upd [] w1 wr)) (fun n _ => 16 - (intOf n).toNat)
  case atStart => exact ⟨0, by omega, rfl, Lib.hid (by intro j _ hj; omega), Lib.hid (Upd.refl _ _)⟩
  case round =>
    clear c5
    obtain ⟨k, hk, rfl, HA, HU⟩ := hrel
    by_cases hlt : k < 16
    · have hkI : (k : Int) < 16 := by omega
      have hl : k < x.l.length := by rw [HN.out]; exact hlt
      have h1 := Own.upd0 H0.out HU.out
      obtain ⟨a1, e1, a2, e2, a3, e3, a4, e4, s1, s2, s3, s4⟩ := ct_shape h1 k hl
      obtain ⟨g0, g1, g2, g3, g4, g5, g6, g7, g8, g9, g10, g11, g12, g13⟩ := oi_row h1 k hl
      rw [s1] at g6; rw [s2] at g7; rw [s3] at g12; rw [s4] at g13
      have hdl := (oi_cert h1 k hl).2.2.2.1
      have S3 := Lib.hid s3
      have HC := Lib.hid (own_chosen (oi_pick (Own.alloc h1 (.cells #[x.l[k].lc.ptr, .bool x.l[k].told, .bool x.l[k].has, .int .i64 x.l[k].ct.view, .int .i64 x.l[k].ct.inst, .int .i64 x.l[k].ct.seq, .slice a1 x.l[k].ct.rs.length e1, .slice a2 x.l[k].ct.vs.length e2, .bool x.l[k].done, .int .i64 x.l[k].dw.view, .int .i64 x.l[k].dw.inst, .int .i64 x.l[k].dw.seq, .slice a3 x.l[k].dw.rs.length e3, .slice a4 x.l[k].dw.vs.length e4] 122 (0, 0))) k hl))
      have HBX := Lib.hid ((own_shut (Own.alloc h1 (.cells #[x.l[k].lc.ptr, .bool x.l[k].told, .bool x.l[k].has, .int .i64 x.l[k].ct.view, .int .i64 x.l[k].ct.inst, .int .i64 x.l[k].ct.seq, .slice a1 x.l[k].ct.rs.length e1, .slice a2 x.l[k].ct.vs.length e2, .bool x.l[k].done, .int .i64 x.l[k].dw.view, .int .i64 x.l[k].dw.inst, .int .i64 x.l[k].dw.seq, .slice a3 x.l[k].dw.rs.length e3, .slice a4 x.l[k].dw.vs.length e4] 122 (0, 0)))).drop.blk_out)
      have HPX := Lib.hid (heap_alloc_new wr (.cells #[x.l[k].lc.ptr, .bool x.l[k].told, .bool x.l[k].has, .int .i64 x.l[k].ct.view, .int .i64 x.l[k].ct.inst, .int .i64 x.l[k].ct.seq, .slice a1 x.l[k].ct.rs.length e1, .slice a2 x.l[k].ct.vs.length e2, .bool x.l[k].done, .int .i64 x.l[k].dw.view, .int .i64 x.l[k].dw.inst, .int .i64 x.l[k].dw.seq, .slice a3 x.l[k].dw.rs.length e3, .slice a4 x.l[k].dw.vs.length e4] 122 (0, 0)))
      have HUA := Lib.hid (HU.out.alloc (.cells #[x.l[k].lc.ptr, .bool x.l[k].told, .bool x.l[k].has, .int .i64 x.l[k].ct.view, .int .i64 x.l[k].ct.inst, .int .i64 x.l[k].ct.seq, .slice a1 x.l[k].ct.rs.length e1, .slice a2 x.l[k].ct.vs.length e2, .bool x.l[k].done, .int .i64 x.l[k].dw.view, .int .i64 x.l[k].dw.inst, .int .i64 x.l[k].dw.seq, .slice a3 x.l[k].dw.rs.length e3, .slice a4 x.l[k].dw.vs.length e4] 122 (0, 0)))
      have HSM := Lib.hid (own_small (oi_pick h1 k hl)).1
      clear h1 s1 s2 s3 s4
      go_wp2_with fail
      generalize wr.alloc (.cells #[x.l[k].lc.ptr, .bool x.l[k].told, .bool x.l[k].has, .int .i64 x.l[k].ct.view, .int .i64 x.l[k].ct.inst, .int .i64 x.l[k].ct.seq, .slice a1 x.l[k].ct.rs.length e1, .slice a2 x.l[k].ct.vs.length e2, .bool x.l[k].done, .int .i64 x.l[k].dw.view, .int .i64 x.l[k].dw.inst, .int .i64 x.l[k].dw.seq, .slice a3 x.l[k].dw.rs.length e3, .slice a4 x.l[k].dw.vs.length e4] 122 (0, 0)) = w2 at *
      clear g0 g1 g2 g3 g4 g5 g6 g7 g8 g9 g10 g11 g12 g13
      refine HC.out.mono ?_
      rintro e w3 ⟨u, rfl, hu3, hb3, -⟩
      have HU3 := Lib.hid (HUA.out.trans hu3)
      have HB3 := Lib.hid hb3
      have lb := block_lt HBX.out
      have lp := block_lt HPX.out
      have hbx := (hu3.block _ lb (by simp)).trans HBX.out
      have hpx := (hu3.block _ lp (by simp)).trans HPX.out
      obtain ⟨p0, p1, p2, p3, p4, p5⟩ := rq_cells hbx
      have HBX3 := Lib.hid hbx
      have HPX3 := Lib.hid hpx
      have d8 : w3.cell? ⟨wr.heap.size, 8, none⟩ = some (.bool x.l[k].done) := by rw [block_cell hpx]; rfl
      have d12 : w3.cell? ⟨wr.heap.size, 12, none⟩ = some (.slice a3 x.l[k].dw.rs.length e3) := by rw [block_cell hpx]; rfl
      have hsm : (chosenS x.l[k].sl).length ≤ 100000 := by unfold chosenS; split; exact HSM.out; simp
      clear hu3 hb3 HC HBX HPX HUA hbx hpx lb lp
      generalize wr.heap.size = bx at *
      cases hh : x.l[k].sl.has
      · have HHS := Lib.hid hh
        clear hh
        cases hd : x.l[k].done
        · rw [hd] at d8
          have HDN := Lib.hid hd
          clear hd
          go_wp2_with fail
          go_roundw
          case rel =>
            refine ⟨k + 1, by omega, by go_num, Lib.hid (fun j hj hjk => ?_), HU3⟩
            by_cases e : j = k
            · subst e; simp only [usedP, Pm.pl, Ct.cp]; rw [HHS.out, HDN.out]; simp_all
            · exact HA.out j hj (by omega)
          case measure => simp [intOf]; omega
        · rw [hd] at d8
          have HDN := Lib.hid hd
          clear hd
          have HB3 := Lib.hid ((oi_cert (Own.upd0 H0.out HU3.out) k hl).2.1)
          go_wp2_with fail
          refine (has_any _ x.l[k].dw.rs r _ hdl (by rw [← S3.out]; exact HB3.out)).mono ?_
          rintro e w4 ⟨rfl, hu4⟩
          have HU4 := Lib.hid (HU3.out.trans hu4)
          clear hu4
          cases hq : decide (r ∈ x.l[k].dw.rs)
          · have HQ2 := hq
            go_wp2_with fail
            go_roundw
            case rel =>
              refine ⟨k + 1, by omega, by go_num, Lib.hid (fun j hj hjk => ?_), HU4⟩
              by_cases e : j = k
              · subst e; simp only [usedP, Pm.pl, Ct.cp]; rw [HHS.out, HDN.out]; simp_all
              · exact HA.out j hj (by omega)
            case measure => simp [intOf]; omega
          · have HQ2 := hq
            go_wp2_with fail
            go_ret
            refine ⟨ret_bool ?_, HU0.out.trans HU4.out⟩
            symm
            exact any_of (x := x) hl (by simp only [usedP, Pm.pl, Ct.cp]; rw [HHS.out, HDN.out]; simp_all)
      · have HHS := Lib.hid hh
        clear hh
        go_wp2_with fail
        refine (has_any _ (chosenS x.l[k].sl) r _ hsm HB3.out).mono ?_
        rintro e w5 ⟨rfl, hu5⟩
        have HU5 := Lib.hid (HU3.out.trans hu5)
        have hbx := (hu5.block _ (block_lt HBX3.out) (by simp)).trans HBX3.out
        have hpx := (hu5.block _ (block_lt HPX3.out) (by simp)).trans HPX3.out
        clear p0 p1 p2 p3 p4 p5 d8 d12 hu5
        obtain ⟨p0, p1, p2, p3, p4, p5⟩ := rq_cells hbx
        have d8 : w5.cell? ⟨bx, 8, none⟩ = some (.bool x.l[k].done) := by rw [block_cell hpx]; rfl
        have d12 : w5.cell? ⟨bx, 12, none⟩ = some (.slice a3 x.l[k].dw.rs.length e3) := by rw [block_cell hpx]; rfl
        clear hbx hpx HBX3 HPX3
        cases hq1 : decide (r ∈ chosenS x.l[k].sl)
        · have HQ1 := hq1
          cases hd : x.l[k].done
          · rw [hd] at d8
            have HDN := Lib.hid hd
            clear hd
            go_wp2_with fail
            go_roundw
            case rel =>
              refine ⟨k + 1, by omega, by go_num, Lib.hid (fun j hj hjk => ?_), HU5⟩
              by_cases e : j = k
              · subst e; simp only [usedP, Pm.pl, Ct.cp]; rw [HHS.out, HDN.out]; simp_all
              · exact HA.out j hj (by omega)
            case measure => simp [intOf]; omega
          · rw [hd] at d8
            have HDN := Lib.hid hd
            clear hd
            have HB3 := Lib.hid ((oi_cert (Own.upd0 H0.out HU5.out) k hl).2.1)
            go_wp2_with fail
            refine (has_any _ x.l[k].dw.rs r _ hdl (by rw [← S3.out]; exact HB3.out)).mono ?_
            rintro e w4 ⟨rfl, hu4⟩
            have HU4 := Lib.hid (HU5.out.trans hu4)
            clear hu4
            cases hq : decide (r ∈ x.l[k].dw.rs)
            · have HQ2 := hq
              go_wp2_with fail
              go_roundw
              case rel =>
                refine ⟨k + 1, by omega, by go_num, Lib.hid (fun j hj hjk => ?_), HU4⟩
                by_cases e : j = k
                · subst e; simp only [usedP, Pm.pl, Ct.cp]; rw [HHS.out, HDN.out]; simp_all
                · exact HA.out j hj (by omega)
              case measure => simp [intOf]; omega
            · have HQ2 := hq
              go_wp2_with fail
              go_ret
              refine ⟨ret_bool ?_, HU0.out.trans HU4.out⟩
              symm
              exact any_of (x := x) hl (by simp only [usedP, Pm.pl, Ct.cp]; rw [HHS.out, HDN.out]; simp_all)
        · have HQ1 := hq1
          cases hd : x.l[k].done
          · have HDN := Lib.hid hd
            clear hd
            go_wp2_with fail
            go_ret
            refine ⟨ret_bool ?_, HU0.out.trans HU5.out⟩
            symm
            exact any_of (x := x) hl (by simp only [usedP, Pm.pl, Ct.cp]; rw [HHS.out, HDN.out]; simp_all)
          · have HDN := Lib.hid hd
            clear hd
            go_wp2_with fail
            go_ret
            refine ⟨ret_bool ?_, HU0.out.trans HU5.out⟩
            symm
            exact any_of (x := x) hl (by simp only [usedP, Pm.pl, Ct.cp]; rw [HHS.out, HDN.out]; simp_all)
    · have hk16 : k = 16 := by omega
      subst hk16
      go_wp2_with fail
      go_ret
      refine ⟨ret_bool ?_, HU0.out.trans HU.out⟩
      symm
      exact any_none (x := x) HN.out HA.out

end
end Go.Proofs.Ytdeadekeffficaa
