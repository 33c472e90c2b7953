/- inst: Pre, Next. -/
import Derived.Test.YtdeadekeffficaaInC
namespace Go.Proofs.Ytdeadekeffficaa
open Go.RowKit Go.Heap

section
variable {B : Nat} {w0 W W' : World} {ss rs : List Res} {x : Ins}

theorem in_blk {b : Nat} {o : Obj} (h : Own B w0 W rs) (hm : blk b o ∈ rs) : W.heap[b]? = some o := blk_out (h.all _ hm).1

theorem done_le {st : In} : doneI st ≤ st.l.length := by
  unfold doneI
  exact (List.takeWhile_sublist _).length_le

theorem ins_done_le (h : InsOk x) : doneI x.st ≤ 16 := by
  have := done_le (st := x.st)
  simp [Ins.st, h.n] at this
  exact this

theorem pre_off {seq : Int} {st : In} (hk : idx seq = none) (l : List Rq) : preB st seq = false ∧ preI st seq l = st := by
  simp [preB, preI, plAt_none hk, hk]

theorem pre_no {seq : Int} {st : In} (h : preB st seq = false) (l : List Rq) : preI st seq l = st := by
  unfold preI
  rw [h]
  cases idx seq <;> rfl

/-- Cells of an instance of which a slot lies apart. -/
theorem pk_cells {r : Res} {rest : List Res} (h : Own B w0 W (r :: (insHd x ++ rest))) : W.cell? ⟨x.i, 2, none⟩ = some (.int .i64 x.ahead) ∧ W.cell? ⟨x.i, 4, none⟩ = some (.bool x.on) ∧ W.cell? ⟨x.i, 5, none⟩ = some (.slice (some ⟨x.b, 0, none⟩) 16 x.cap) ∧
    ∀ k, k < x.l.length → W.cell? ⟨x.b, k * 14, none⟩ = (x.l[k]?).map (·.lc.ptr) := by
  have hb := in_blk h (b := x.i) (o := x.o) (by simp [insHd])
  refine ⟨by rw [block_cell hb]; rfl, by rw [block_cell hb]; rfl, by rw [block_cell hb]; rfl, fun k hk => ?_⟩
  obtain ⟨-, h2, -⟩ := segR_at (h.all (segR x.b 122 (x.l.flatMap pmCells)) (by simp [insHd])).1
  obtain ⟨e1, e2⟩ := flat14 x.l k 0 hk (by omega)
  rw [Nat.add_zero] at e1 e2
  rw [h2 _ e2, e1, List.getElem?_eq_getElem hk]
  rfl

theorem quiet_eq {P : Program} {f : FuncId} {args : Array Value} {w : World} {n : Nat} {v : Value} (h : Calls P f args (w.drewN n) fun e w' => e = .returned v ∧ w.drewN n = w') : Calls P f args (w.drewN n) fun e w'' => e = .returned v ∧ ∃ m, w'' = w.drewN m :=
  h.mono fun _ _ ⟨he, hm⟩ => ⟨he, n, hm.symm⟩

set_option maxHeartbeats 1000000 in
theorem ins_pre (h : Own B w0 W (instR x :: ss)) {i : Nat} (hi : x.i = i) (seq : Int) (v : Value) (l : List Rq) (hb : Bat W v l) (hn : l.length ≤ 100000) :
    Calls Try.prog 40 #[.pointer (some ⟨i, 0, none⟩), .int .i64 seq, v] W (InsP B w0 W i (preI x.st seq l) ss (.bool (preB x.st seq))) := by
  subst hi
  have ho := own_open h
  have hod := oi_drew ho
  obtain ⟨-, -, c2w, -, c4w, c5, l1, l2⟩ := oi_cells ho
  obtain ⟨-, -, c2, -, c4, -, -, -⟩ := oi_cells hod
  cases hk : idx seq with
  | none =>
    have hs := idx_none hk
    have HE := Lib.hid (pre_off (st := x.st) hk l)
    have HA := Lib.hid (at_no x.i x.b x.cap seq W hs c5)
    have H := Lib.hid h
    clear ho hod h hk hs c2 c4 c4w c5 hb
    go_enter Try.func40, Try.ntmps40
    go_wp2_with fail
    refine HA.out.mono ?_
    rintro e w' ⟨rfl, rfl⟩
    go_wp2_with fail
    go_quiet (fail)
    go_wp2_with fail
    go_ret
    rw [HE.out.1]
    exact insP_same (H.out.upd0 ((Upd.refl _ _).drewN _)) HE.out.2
  | some k =>
    obtain ⟨hl, hp⟩ := plAt_some (oi_ok ho) hk
    obtain ⟨i1, i2⟩ := idx_lt hk
    have HA := Lib.hid (at_yes x.i x.b x.cap seq W (by omega) (by omega) c5)
    have hks : seq.toNat - 1 = k := by omega
    rw [hks] at HA
    have cp := oi_ptr hod k hl
    by_cases hon : x.on = true
    · rw [hon] at c4 c4w
      have hdl := ins_done_le (oi_ok ho)
      obtain ⟨a1, a2⟩ : 1 ≤ x.ahead ∧ x.ahead ≤ 16 := ⟨(oi_ok ho).a1, (oi_ok ho).a2⟩
      have HD := Lib.hid (done_open hod)
      have HDN := Lib.hid (fun n => done_open (x := x) (Own.upd0 ho ((Upd.refl _ _).drewN n)))
      have HW := Lib.hid h
      have HBQ := Lib.hid (show preB x.st seq = (decide (seq ≤ doneI x.st + x.ahead) && !x.l[k].sl.has) by simp only [preB, hp, Pm.pl]; simp [Ins.st, hon])
      have HIQ := Lib.hid (fun hq : preB x.st seq = true => show preI x.st seq l = x.st.upd k fun p => { p with sl := slPre l p.sl } by simp only [preI, hk]; rw [if_pos hq])
      have HNQ := Lib.hid (fun hq : preB x.st seq = false => pre_no hq l)
      have HC := Lib.hid (own_pre (oi_pick hod k hl) v l (hb.upd (M := []) (Upd.refl _ _).drew (by simp)) hn)
      have H := Lib.hid hod
      have HX := Lib.hid hon
      clear ho hod h hk c5 hp i2 hks hon hb
      unfold DoneP at HD HDN
      generalize doneI x.st = d at *
      have hsum : IntKind.i64.wrap ((d : Int) + x.ahead) = (d : Int) + x.ahead := IntWalk.i64_in _ (by omega)
      by_cases hw : seq ≤ (d : Int) + x.ahead
      · have hwb : decide (seq ≤ (d : Int) + x.ahead) = true := by simp [hw]
        rw [hwb, Bool.true_and] at HBQ
        go_enter Try.func40, Try.ntmps40
        go_wp2_with fail
        refine HA.out.mono ?_
        rintro e w' ⟨rfl, rfl⟩
        go_wp2_with fail
        go_region_held3 (fun w' => w'.cell? ⟨x.i, 4, none⟩ = some (.bool true) ∧ w'.cell? ⟨x.i, 2, none⟩ = some (.int .i64 x.ahead) ∧ w'.cell? ⟨x.b, k * 14, none⟩ = some x.l[k].lc.ptr)
          (first | (with_reducible exact ⟨c4, c2, cp⟩) | (with_reducible exact ⟨d4, d2, dp⟩))
          (first
            | (go_at_call 37; refine HD.out.mono ?_; rintro e w' ⟨rfl, rfl⟩)
            | (go_at_call 20; refine HC.out.mono ?_; rintro e w' ⟨rfl, -, h2⟩; have H2 := Lib.hid h2; obtain ⟨d2, d4, -, dp⟩ := pk_cells h2; rw [HX.out] at d4; have dp := dp k hl; rw [List.getElem?_eq_getElem hl, Option.map_some] at dp; clear h2))
        go_wp2_with fail
        go_ret
        rw [HBQ.out]
        cases hh : x.l[k].sl.has
        · rw [HIQ.out (by rw [HBQ.out, hh]; rfl)]
          refine ⟨rfl, x.sl k { x.l[k] with sl := slPre l x.l[k].sl }, rfl, st_set x k hl _ _ rfl, own_shut (oi_unpick k hl _ ?_ rfl ⟨rfl, rfl⟩ rfl)⟩
          exact H2.out
        · rw [HNQ.out (by rw [HBQ.out, hh]; rfl)]
          refine ⟨rfl, x.sl k { x.l[k] with sl := slPre l x.l[k].sl }, rfl, ?_, own_shut (oi_unpick k hl _ H2.out rfl ⟨rfl, rfl⟩ rfl)⟩
          rw [st_set x k hl _ id (by simp [Pm.pl, slPre, hh]), In.upd, List.modify_id]
      · have hwb : decide (seq ≤ (d : Int) + x.ahead) = false := by simp; omega
        rw [hwb, Bool.false_and] at HBQ
        go_enter Try.func40, Try.ntmps40
        go_wp2_with fail
        refine HA.out.mono ?_
        rintro e w' ⟨rfl, rfl⟩
        go_wp2_with fail
        go_quiet ((go_at_call 37; exact quiet_eq (HDN.out _)))
        go_wp2_with fail
        go_ret
        rw [HBQ.out, HNQ.out HBQ.out]
        exact insP_same (HW.out.upd0 ((Upd.refl _ _).drewN _)) rfl
    · have hon' : x.on = false := by simpa using hon
      rw [hon'] at c4w
      clear c4
      have HB := Lib.hid (show preB x.st seq = false by simp only [preB, hp]; simp [Ins.st, hon'])
      have HI := Lib.hid (pre_no HB.out l)
      have H := Lib.hid h
      clear ho hod h hk c5 hp i2 hks hon hb hon' c2
      go_enter Try.func40, Try.ntmps40
      go_wp2_with fail
      refine HA.out.mono ?_
      rintro e w' ⟨rfl, rfl⟩
      go_wp2_with fail
      go_quiet (fail)
      go_wp2_with fail
      go_ret
      rw [HB.out]
      exact insP_same (H.out.upd0 ((Upd.refl _ _).drewN _)) HI.out

end
end Go.Proofs.Ytdeadekeffficaa
