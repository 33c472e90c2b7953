/- Parts of the proof, one behind the other. -/
import Derived.Test.YtdeadekeffficaaPlayB1

/- The document's instance: Pre. -/
namespace Go.Proofs.Ytdeadekeffficaa
open Go.RowKit Go.Heap

section
variable {B : Nat} {w0 w W W' : World} {ss rs : List Res} {p : Nat} {st : In} {h h' : Nat → Value} {m m' : Nat → Nat → Value} {D D' : List Nat} {A : List Nat}

theorem updg_at (st : In) (k : Nat) (g : Pl → Pl) (j : Nat) (hj : j < (st.upd k g).l.length) : ∃ hj' : j < st.l.length, (st.upd k g).l[j] = if k = j then g st.l[j] else st.l[j] := by
  have hj' : j < st.l.length := by simpa [In.upd] using hj
  refine ⟨hj', ?_⟩
  simp only [In.upd, List.getElem_modify]

/-- One place turns. -/
theorem DocI.row (hd : DocI w h m st D) (k : Nat) (hk : k < st.l.length) (g : Pl → Pl) (hm : ∀ j, j ≠ k + 1 → m' j = m j) (hs : ∀ x ∈ D, x ∈ D') (hp : DPl w st.f (m' (k + 1)) (g st.l[k]) D') (ho : st.on = false → (g st.l[k]).sl = emptySl st.f) : DocI w h m' (st.upd k g) D' where
  n := by simp [In.upd, hd.n]
  f1 := hd.f1
  f2 := hd.f2
  h0 := hd.h0
  h1 := hd.h1
  h2 := hd.h2
  h3 := hd.h3
  h4 := hd.h4
  a1 := hd.a1
  a2 := hd.a2
  vw := hd.vw
  z := fun q => by rw [hm 0 (by omega)]; exact hd.z q
  off := fun e p hp => by
    obtain ⟨j, hj, rfl⟩ := List.getElem_of_mem hp
    obtain ⟨hj', e2⟩ := updg_at st k g j hj
    rw [e2]
    split
    · next e3 => subst e3; exact ho e
    · exact hd.off e _ (List.getElem_mem hj')
  pl := fun j hj => by
    obtain ⟨hj', e2⟩ := updg_at st k g j hj
    rw [e2]
    split
    · next e3 => subst e3; exact hp
    · next e3 => rw [hm (j + 1) (by omega)]; exact (hd.pl j hj').mono hs

/-- A place of another row of values that says the same. -/
theorem DPl.congr {f : Nat} {r r' : Nat → Value} {q : Pl} (hp : DPl w f r q D) (he : ∀ i, i < 17 → r' i = r i) : DPl w f r' q D :=
  { hp with
    has := by rw [he 0 (by omega)]; exact hp.has
    dc := by rw [he 1 (by omega), he 2 (by omega), he 3 (by omega)]; exact hp.dc
    told := by rw [he 4 (by omega)]; exact hp.told
    ct := hp.ct.congr (fun i _ h2 => he i (by omega))
    dw := hp.dw.congr (fun i _ h2 => he i (by omega))
    hc := by rw [he 15 (by omega)]; exact hp.hc
    hd := by rw [he 16 (by omega)]; exact hp.hd }

theorem DPl.pre {f : Nat} {r r' : Nat → Value} {q : Pl} {v : Value} {l : List Rq} {D1 : List Nat} (hp : DPl w f r q D) (hb : BatIn w v l D1) (hn : l.length ≤ 100000) (hh : q.sl.has = false) (h0 : r' 0 = .bool true) (h1 : r' 1 = v) (he : ∀ i, 1 < i → r' i = r i) :
    DPl w f r' { q with sl := slPre l q.sl } (D ++ D1) := by
  have hs : slPre l q.sl = { q.sl with has := true, batch := l } := by simp [slPre, hh]
  rw [hs]
  have hD : ∀ x ∈ D, x ∈ D ++ D1 := by simp +contextual
  have hD1 : ∀ x ∈ D1, x ∈ D ++ D1 := by simp +contextual
  obtain ⟨pl, p1, p2⟩ := hp.dc.p
  obtain ⟨cl, c1, c2⟩ := hp.dc.c
  exact {
    has := h0
    dc := ⟨by rw [h1]; exact ReadsIn.mono hb hD1, ⟨pl, by rw [he 2 (by omega)]; exact p1.mono hD, p2⟩, cl, by rw [he 3 (by omega)]; exact c1.mono hD, c2⟩
    told := by rw [he 4 (by omega)]; exact hp.told
    ct := (hp.ct.mono hD).congr (fun i h1 _ => he i (by omega))
    dw := (hp.dw.mono hD).congr (fun i h1 _ => he i (by omega))
    hc := by rw [he 15 (by omega)]; exact hp.hc
    hd := by rw [he 16 (by omega)]; exact hp.hd
    n := by simpa [chosenS] using hn
    pl := hp.pl
    cl := hp.cl }

theorem own_docpre {v : Value} {l : List Rq} (hw : Own B w0 W (docB p h m :: docI h m st :: batR v l :: ss)) (hn : l.length ≤ 100000) (n k : Nat) (hnk : n = k + 1) (hk : k < st.l.length) (hk17 : n < 17) (hon : st.on = true) (hh : st.l[k].sl.has = false) :
    AtD B w0 ((W.setCell ⟨p, 5 + n * 4, none⟩ (.bool true)).setCell ⟨p, 5 + n * 4 + 1, none⟩ v) p (st.upd k fun q => { q with sl := slPre l q.sl }) ss := by
  have h1 : Own B w0 ((W.setCell ⟨p, 5 + n * 4, none⟩ (.bool true)).setCell ⟨p, 5 + n * 4 + 1, none⟩ v) (docB p h (setM (setM m n 0 (.bool true)) n 1 v) :: docI h m st :: batR v l :: ss) := docB_put (docB_put hw n 0 hk17 (by omega) (.bool true)) n 1 hk17 (by omega) v
  subst hnk
  have h2 : Own B w0 _ (docI h m st :: batR v l :: docB p h (setM (setM m (k + 1) 0 (.bool true)) (k + 1) 1 v) :: ss) := h1.rot'
  refine ⟨h, setM (setM m (k + 1) 0 (.bool true)) (k + 1) 1 v, Own.swap (own_join h2 ?_)⟩
  · intro D D1 hd hb
    refine hd.row k hk _ (fun j hj => by rw [setM_row hj, setM_row hj]) (by simp +contextual) (DPl.pre (hd.pl k hk) hb hn hh ?_ ?_ ?_) (by simp [hon])
    · rw [setM_col (by omega), setM_same]
    · rw [setM_same]
    · intro i hi
      rw [setM_col (by omega), setM_col (by omega)]

theorem db_cell (hb : (docB p h m).At w A) (n q : Nat) (hn : n < 17) (hq : q < 17) : w.cell? ⟨p, offD n q, none⟩ = some (m n q) := (docB_at hb).2.2.1 n q hn hq

/-- What the first four cells of a place hold. -/
theorem db_slot (hb : (docB p h m).At w A) (hd : DocI w h m st D) (n k : Nat) (hnk : n = k + 1) (hk : k < st.l.length) :
    w.cell? ⟨p, 5 + n * 4, none⟩ = some (.bool st.l[k].sl.has) ∧ w.cell? ⟨p, 5 + n * 4 + 1, none⟩ = some (m n 1) ∧ w.cell? ⟨p, 5 + n * 4 + 2, none⟩ = some (m n 2) ∧ w.cell? ⟨p, 5 + n * 4 + 3, none⟩ = some (m n 3) := by
  have hn := hd.n
  subst hnk
  have hp := hd.pl k hk
  exact ⟨by rw [← hp.has]; exact db_cell hb (k + 1) 0 (by omega) (by omega), db_cell hb (k + 1) 1 (by omega) (by omega), db_cell hb (k + 1) 2 (by omega) (by omega), db_cell hb (k + 1) 3 (by omega) (by omega)⟩

theorem db_head (hb : (docB p h m).At w A) (hd : DocI w h m st D) : w.cell? ⟨p, 0, none⟩ = some (.int .i64 st.f) ∧ w.cell? ⟨p, 1, none⟩ = some (.int .i64 st.num) ∧ w.cell? ⟨p, 2, none⟩ = some (.int .i64 st.ahead) ∧ w.cell? ⟨p, 3, none⟩ = some (.int .i64 st.view) ∧ w.cell? ⟨p, 4, none⟩ = some (.bool st.on) ∧ p < w.heap.size ∧ ∀ o, w.frozen? ⟨p, o, none⟩ = false := by
  obtain ⟨a, b, -, c⟩ := docB_at hb
  exact ⟨by rw [b 0 (by omega), hd.h0], by rw [b 1 (by omega), hd.h1], by rw [b 2 (by omega), hd.h2], by rw [b 3 (by omega), hd.h3], by rw [b 4 (by omega), hd.h4], a, c⟩


theorem pl_of {seq : Int} {k : Nat} (hn : st.l.length = 16) (hk : idx seq = some k) : ∃ hk' : k < st.l.length, plAt st seq = some st.l[k] ∧ seq = ((k + 1 : Nat) : Int) := by
  obtain ⟨h1, h2⟩ := idx_lt hk
  have hk' : k < st.l.length := by omega
  exact ⟨hk', by simp [plAt, hk, hk'], by omega⟩

set_option maxHeartbeats 2000000 in
set_option maxRecDepth 100000 in
theorem ad_pre {v : Value} {l : List Rq} (hw : AtD B w0 W p st (batR v l :: ss)) (seq : Int) (hn : l.length ≤ 100000) :
    Calls Try.prog 70 #[.pointer (some ⟨p, 0, none⟩), .int .i64 seq, v] W fun e w' => e = .returned (.bool (preB st seq)) ∧ AtD B w0 w' p (preI st seq l) ss := by
  have HR := Lib.hid (fun n => ad_reach (hw.upd0 ((Upd.refl _ _).drewN n)))
  obtain ⟨h, m, D, h3, hd⟩ := ad_docI hw
  have hb := h3.head
  obtain ⟨ao, cap, rfl⟩ := bat_form (batR_out h3.drop.drop.head)
  obtain ⟨-, -, c2, -, c4, hlt, fz⟩ := db_head hb hd
  have HW := Lib.hid (ad_drop hw)
  have hdn := done_le (st := st)
  rw [hd.n] at hdn
  have ha1 := hd.a1
  have ha2 := hd.a2
  cases hon : st.on with
  | false =>
    rw [hon] at c4
    have HB := Lib.hid (show preB st seq = false by unfold preB; cases plAt st seq <;> simp [hon])
    have HI := Lib.hid (pre_no HB.out l)
    clear hw h3 hd hb hon c2 fz hdn ha1 ha2
    go_enter Try.func70, Try.ntmps70
    go_wp2_with fail
    go_quiet (fail)
    go_wp2_with fail
    go_ret
    rw [HB.out, HI.out]
    exact ⟨rfl, HW.out.upd0 ((Upd.refl _ _).drewN _)⟩
  | true =>
    rw [hon] at c4
    cases hk : idx seq with
    | none =>
      have HB := Lib.hid (show preB st seq = false by simp only [preB, plAt_none hk])
      have HI := Lib.hid (pre_no HB.out l)
      have HRG := Lib.hid (fun w => drange_any seq w)
      rw [hk] at HRG
      clear hw h3 hd hb hon c2 fz hdn ha1 ha2 hk
      go_enter Try.func70, Try.ntmps70
      go_wp2_with fail
      go_quiet ((go_at_call 82; exact quiet_eq (HRG.out _)))
      go_wp2_with fail
      go_ret
      rw [HB.out, HI.out]
      exact ⟨rfl, HW.out.upd0 ((Upd.refl _ _).drewN _)⟩
    | some k =>
      obtain ⟨hkl, hp, hseq⟩ := pl_of hd.n hk
      have HRG := Lib.hid (fun w => drange_any seq w)
      rw [hk] at HRG
      have hsum : IntKind.i64.wrap ((doneI st : Int) + st.ahead) = (doneI st : Int) + st.ahead := IntWalk.i64_in _ (by omega)
      have hk16 : k < 16 := (idx_lt hk).1
      obtain ⟨s0, s1, -, -⟩ := db_slot hb hd (k + 1) k rfl hkl
      have HBQ := Lib.hid (show preB st seq = (decide (seq ≤ doneI st + st.ahead) && !st.l[k].sl.has) by simp only [preB, hp]; simp [hon])
      have HIQ := Lib.hid (fun hq : preB st seq = true => show preI st seq l = st.upd k fun p => { p with sl := slPre l p.sl } by simp only [preI, hk]; rw [if_pos hq])
      have HNQ := Lib.hid (fun hq : preB st seq = false => pre_no hq l)
      have HON := Lib.hid hon
      have H3 := Lib.hid h3
      have HP := Lib.hid (fun h N => own_docpre (Own.upd0 h3 ((Upd.refl _ _).drewN N)) hn (k + 1) k rfl hkl (by omega) hon h)
      generalize doneI st = d at *
      generalize hnn : k + 1 = n at *
      clear hw h3 hd hb hk hp hon
      subst hseq
      by_cases hwd : (n : Int) ≤ (d : Int) + st.ahead
      · have hwb : decide ((d : Int) + st.ahead < (n : Int)) = false := by simp; omega
        have hwb2 : decide ((n : Int) ≤ (d : Int) + st.ahead) = true := by simp [hwd]
        rw [hwb2, Bool.true_and] at HBQ
        cases hh : st.l[k].sl.has with
        | true =>
          rw [hh] at s0 HBQ
          rw [HBQ.out, HNQ.out HBQ.out]
          clear hh hwb2 hwd fz HP
          go_enter Try.func70, Try.ntmps70
          go_wp2_with fail
          go_quiet (first | (go_at_call 82; exact quiet_eq (HRG.out _)) | (go_at_call 78; exact quiet_eq (HR.out _)))
          go_wp2_with fail
          go_ret
          exact ⟨rfl, HW.out.upd0 ((Upd.refl _ _).drewN _)⟩
        | false =>
          rw [hh] at s0 HBQ
          rw [HBQ.out, HIQ.out HBQ.out]
          have HQ := Lib.hid (HP.out hh)
          clear hh hwb2 hwd HP
          go_enter Try.func70, Try.ntmps70
          go_wp2_with fail
          go_quiet (first | (go_at_call 82; exact quiet_eq (HRG.out _)) | (go_at_call 78; exact quiet_eq (HR.out _)))
          have z0 := fz (5 + n * 4)
          have z1 := fz (5 + n * 4 + 1)
          clear fz
          go_wp2_with fail
          refine Mix.wp_text2 (by kernel_rfl) (by kernel_rfl) ?_
          go_wp2_with fail
          refine ⟨by rfl, ?_⟩
          go_wp2_with fail
          go_ret
          exact ⟨rfl, HQ.out _⟩
      · have hwb : decide ((d : Int) + st.ahead < (n : Int)) = true := by simp; omega
        have hwb2 : decide ((n : Int) ≤ (d : Int) + st.ahead) = false := by simp; omega
        rw [hwb2, Bool.false_and] at HBQ
        rw [HBQ.out, HNQ.out HBQ.out]
        clear hwb2 hwd fz HP
        go_enter Try.func70, Try.ntmps70
        go_wp2_with fail
        go_quiet (first | (go_at_call 82; exact quiet_eq (HRG.out _)) | (go_at_call 78; exact quiet_eq (HR.out _)))
        go_wp2_with fail
        go_ret
        exact ⟨rfl, HW.out.upd0 ((Upd.refl _ _).drewN _)⟩

end
end Go.Proofs.Ytdeadekeffficaa

/- The document's instance: Vote. -/
namespace Go.Proofs.Ytdeadekeffficaa
open Go.RowKit Go.Heap

def AddPost (w : World) (v : Value) (pl : List Rv) (r : Rv) (b : Bool) (ps : List Vt) (e : Ending) (w' : World) : Prop :=
  ∃ u l', e = .returned (.tuple #[u, .bool b]) ∧ Upd [] w w' ∧ RVs w' u l' ∧ l'.map rvOf = refs ps 0 ∧ (∀ x ∈ l', x ∈ pl ∨ x = r) ∧ ((u = v ∧ l' = pl) ∨ ∀ k ∈ blkOf u, w.heap.size ≤ k ∧ k < w'.heap.size)

def votedL (ps : List Vt) (m : Nat) (sl : Int) (rs : List Rq) : List Vt := if votedB ps m then ps else ps.set m ⟨true, sl, rs⟩
theorem votedL_len (ps : List Vt) (m : Nat) (sl : Int) (rs : List Rq) : (votedL ps m sl rs).length = ps.length := by unfold votedL; split <;> simp
theorem votedB_at (ps : List Vt) (m : Nat) (hm : m < ps.length) : votedB ps m = ps[m].has := by simp [votedB, hm]

theorem add_refs (v bv : Value) (pl : List Rv) (ps : List Vt) (m : Nat) (sl : Int) (rs : List Rq) (w : World) (hm : m < ps.length) (hl : ps.length ≤ 1000) (hp : pl.map rvOf = refs ps 0) (hv : RVs w v pl) (hb : Bat w bv rs) (hbn : rs.length ≤ 100000) :
    Calls Try.prog 61 #[v, .agg #[.int .i64 m, .int .i64 sl, bv]] w (AddPost w v pl ⟨m, sl, bv, rs⟩ (!votedB ps m) (votedL ps m sl rs)) := by
  have hln := rv_len13 hp
  have hvb := votedB_at ps m hm
  cases hh : ps[m].has
  · obtain ⟨i, hi, hdn, hup, hmap⟩ := ref_yes hp hm hh sl rs
    refine (add_yes v bv pl m sl rs w (by omega) hv hb hbn i hi hdn hup).mono ?_
    rintro e w' ⟨u, rfl, hbl, hr, hn⟩
    rw [hh] at hvb
    refine ⟨u, _, by rw [hvb]; rfl, Upd.of_below hbl, hr, ?_, mem_parts, .inr hn⟩
    rw [hmap bv, votedL, hvb, if_neg (by simp)]
  · obtain ⟨i, hi, hn, hup⟩ := ref_no hp hm hh
    refine (add_no v bv pl m sl rs w (by omega) hv hb i hi hn (fun j hj hij => hup j hj hij)).mono ?_
    rintro e w' ⟨rfl, hbl⟩
    rw [hh] at hvb
    refine ⟨v, pl, by rw [hvb]; rfl, Upd.of_below hbl, hv.upd0 (Upd.of_below hbl), ?_, fun x hx => .inl hx, .inl ⟨rfl, rfl⟩⟩
    rw [votedL, hvb, if_pos rfl, hp]

section
variable {B : Nat} {w0 w W W' : World} {ss rs : List Res} {p : Nat} {st : In} {h h' : Nat → Value} {m m' : Nat → Nat → Value} {D D' : List Nat} {A : List Nat}

theorem docI_alter (hw : Own B w0 W (docI h m st :: rs)) {st' : In} (D' : List Nat) (hd : DocI W h' m' st' D') (h1 : ∀ k ∈ D', k < W.heap.size ∧ k ∉ Ms rs) : Own B w0 W (docI h' m' st' :: rs) := by
  refine hw.alter (r' := docI h' m' st') ⟨D', ⟨hd, fun k hk => (h1 k hk).1⟩, fun k hk hn => ?_, fun k hk => hw.lt k hk⟩ (fun _ hk => hk)
  rcases (Ms_cons _ _ _).1 hn with hn | hn
  · simp [docI, imm] at hn
  · exact (h1 k hk).2 hn

theorem upd_cell0 {w' : World} {o : Nat} (hu : Upd [] w w') (hp : p < w.heap.size) : w'.cell? ⟨p, o, none⟩ = w.cell? ⟨p, o, none⟩ := World.cell?_of_block (hu.block p hp (by simp))
theorem canVote_kind {st : Sl} {kind : Int} (hk4 : kind ≠ 4) (hk5 : kind ≠ 5) (n : Int) : canVote st kind n = false := can_other hk4 hk5

theorem dvote4 {st : Sl} {m : Nat} (hm : m < st.ps.length) (sl : Int) (l : List Rq) : voteS st 4 m sl l = { st with ps := votedL st.ps m sl l } ∧ canVote st 4 m = !votedB st.ps m := by
  have hvb := votedB_at st.ps m hm
  cases hh : st.ps[m].has
  · rw [vote_yes4 rfl rfl hm hh, can_yes4 rfl rfl hm hh, hvb, hh]
    refine ⟨?_, rfl⟩
    rw [votedL, hvb, hh, if_neg (by simp)]
  · have hc := can_no4 (kind := 4) (node := (m : Int)) rfl rfl hm hh
    rw [voteS_no hc, hc, hvb, hh]
    refine ⟨?_, rfl⟩
    rw [votedL, hvb, hh, if_pos rfl]

theorem DPl.vote4 {f : Nat} {r r' : Nat → Value} {q : Pl} {u : Value} {l : List Rv} {ps : List Vt} (hp : DPl w f r q D) (hs : ∀ x ∈ D, x ∈ D') (hu : RVsIn w u l D') (hm : l.map rvOf = refs ps 0) (hl : ps.length = 3 * f + 1) (h2 : r' 2 = u) (he : ∀ i, i ≠ 2 → r' i = r i) :
    DPl w f r' { q with sl := { q.sl with ps := ps } } D' := by
  have hp' := hp.mono hs
  obtain ⟨pl, p1, p2⟩ := hp'.dc.p
  obtain ⟨cl, c1, c2⟩ := hp'.dc.c
  exact {
    has := by rw [he 0 (by omega)]; exact hp.has
    dc := ⟨by rw [he 1 (by omega)]; exact hp'.dc.b, ⟨l, by rw [h2]; exact hu, hm⟩, cl, by rw [he 3 (by omega)]; exact c1, c2⟩
    told := by rw [he 4 (by omega)]; exact hp.told
    ct := hp'.ct.congr (fun i h1 _ => he i (by omega))
    dw := hp'.dw.congr (fun i h1 _ => he i (by omega))
    hc := by rw [he 15 (by omega)]; exact hp.hc
    hd := by rw [he 16 (by omega)]; exact hp.hd
    n := hp.n
    pl := hl
    cl := hp.cl }

theorem own_vote4 {bv : Value} {l : List Rq} (hw : Own B w0 W (docB p h m :: docI h m st :: batR bv l :: ss)) (n k : Nat) (hnk : n = k + 1) (hk : k < st.l.length) (hon : st.on = true) :
    ∃ pl, RVs W (m n 2) pl ∧ pl.map rvOf = refs st.l[k].sl.ps 0 ∧ ∀ (w' : World) (u : Value) (r : Rv) (l' : List Rv) (ps : List Vt), Upd [] W w' → r.b = bv → r.rs = l → RVs w' u l' → (∀ x ∈ l', x ∈ pl ∨ x = r) → l'.map rvOf = refs ps 0 → ps.length = 3 * st.f + 1 →
      ((u = m n 2 ∧ l' = pl) ∨ ∀ k ∈ blkOf u, W.heap.size ≤ k ∧ k < w'.heap.size) → AtD B w0 (w'.setCell ⟨p, 5 + n * 4 + 2, none⟩ u) p (st.upd k fun q => { q with sl := { q.sl with ps := ps } }) ss := by
  obtain ⟨D, ⟨h1, h2⟩, h3, h4⟩ := (hw.all (docI h m st) (by simp)).1
  obtain ⟨Dr, ⟨b1, b2⟩, b3, b4⟩ := (hw.all (batR bv l) (by simp)).1
  subst hnk
  obtain ⟨pl, p1, p2⟩ := (h1.pl k hk).dc.p
  have hn16 := h1.n
  have hpl := (h1.pl k hk).pl
  refine ⟨pl, p1.rvs, p2, fun w' u r l' ps hu hrb hrl hru hx hm hps hcase => ?_⟩
  have hw1 : Own B w0 (w'.setCell ⟨p, 5 + (k + 1) * 4 + 2, none⟩ u) (docB p h (setM m (k + 1) 2 u) :: docI h m st :: ss) := docB_put (hw.upd0 hu).rot'.rot'.drop.swap.swap (k + 1) 2 (by omega) (by omega) u
  have hsz : (w'.setCell ⟨p, 5 + (k + 1) * 4 + 2, none⟩ u).heap.size = w'.heap.size := by rw [hs_set]
  have hMs : ∀ k', k' ∈ Ms (docB p h (setM m (k + 1) 2 u) :: ss) → k' ∈ Ms (docB p h m :: docI h m st :: batR bv l :: ss) := fun k' hk' => by
    rcases (Ms_cons _ _ _).1 hk' with hk' | hk'
    · exact (Ms_cons _ _ _).2 (.inl hk')
    · exact (Ms_cons _ _ _).2 (.inr ((Ms_cons _ _ _).2 (.inr ((Ms_cons _ _ _).2 (.inr hk')))))
  have hu2 : Upd [p] w' (w'.setCell ⟨p, 5 + (k + 1) * 4 + 2, none⟩ u) := (Upd.refl _ _).setCell (.inl (by simp)) u
  have hpD : ∀ x ∈ D, x ≠ p := fun x hx e => h3 x hx ((Ms_cons _ _ _).2 (.inl (by simp [docB, e])))
  have hpDr : ∀ x ∈ Dr, x ≠ p := fun x hx e => b3 x hx ((Ms_cons _ _ _).2 (.inl (by simp [docB, e])))
  have hlt : p < W.heap.size := (docB_at hw.head).1
  have hkeep : ∀ x, x < w'.heap.size → x ≠ p → (w'.setCell ⟨p, 5 + (k + 1) * 4 + 2, none⟩ u).heap[x]? = w'.heap[x]? := fun x hx e => hu2.block x hx (by simp [e])
  have hd1 : DocI w' h m st D := h1.dep (fun x hx => hu.block x (h2 x hx) (by simp)) hu.size
  have hd2 : DocI (w'.setCell ⟨p, 5 + (k + 1) * 4 + 2, none⟩ u) h m st D := hd1.dep (fun x hx => hkeep x (Nat.lt_of_lt_of_le (h2 x hx) hu.size) (hpD x hx)) (by rw [hsz]; exact Nat.le_refl _)
  rcases hcase with ⟨rfl, rfl⟩ | hfr
  · have hv1 : RVsIn w' (m (k + 1) 2) l' D := p1.dep (fun x hx => hu.block x (h2 x hx) (by simp)) hu.size
    have hv2 : RVsIn (w'.setCell ⟨p, 5 + (k + 1) * 4 + 2, none⟩ (m (k + 1) 2)) (m (k + 1) 2) l' D := hv1.dep (fun x hx => hkeep x (Nat.lt_of_lt_of_le (h2 x hx) hu.size) (hpD x hx)) (by rw [hsz]; exact Nat.le_refl _)
    refine ⟨h, _, (docI_alter hw1.swap D ?_ ?_).swap⟩
    · refine hd2.row k hk _ (fun j hj => setM_row hj) (fun _ hx => hx) (DPl.vote4 (hd2.pl k hk) (fun _ hx => hx) hv2 hm hps setM_same (fun i hi => setM_col hi _)) (by simp [hon])
    · intro x hx
      exact ⟨by rw [hsz]; exact Nat.lt_of_lt_of_le (h2 x hx) hu.size, fun hn => h3 x hx (hMs x hn)⟩
  · have hv1 : RVsIn w' u l' (blkIf l'.length u ++ Dr ++ D) := p1.add hu h2 (r := r) (by rw [hrb, hrl]; exact b1.dep (fun x hx => hu.block x (b2 x hx) (by simp)) hu.size) hru hx
    have hlt2 : ∀ x ∈ blkIf l'.length u ++ Dr ++ D, x < w'.heap.size ∧ x ≠ p ∧ x ∉ Ms (docB p h m :: docI h m st :: batR bv l :: ss) := fun x hx => by
      simp only [List.mem_append, or_assoc] at hx
      rcases hx with hx | hx | hx
      · have := hfr x (blkIf_sub hx)
        exact ⟨this.2, by omega, hw.fresh this.1⟩
      · exact ⟨Nat.lt_of_lt_of_le (b2 x hx) hu.size, hpDr x hx, b3 x hx⟩
      · exact ⟨Nat.lt_of_lt_of_le (h2 x hx) hu.size, hpD x hx, h3 x hx⟩
    have hv2 : RVsIn (w'.setCell ⟨p, 5 + (k + 1) * 4 + 2, none⟩ u) u l' (blkIf l'.length u ++ Dr ++ D) := hv1.dep (fun x hx => hkeep x (hlt2 x hx).1 (hlt2 x hx).2.1) (by rw [hsz]; exact Nat.le_refl _)
    refine ⟨h, _, (docI_alter hw1.swap (blkIf l'.length u ++ Dr ++ D) ?_ ?_).swap⟩
    · refine hd2.row k hk _ (fun j hj => setM_row hj) (by simp +contextual) (DPl.vote4 (hd2.pl k hk) (by simp +contextual) hv2 hm hps setM_same (fun i hi => setM_col hi _)) (by simp [hon])
    · intro x hx
      exact ⟨by rw [hsz]; exact (hlt2 x hx).1, fun hn => (hlt2 x hx).2.2 (hMs x hn)⟩

theorem dvote5 {st : Sl} {m : Nat} (hm : m < st.cs.length) (sl : Int) (l : List Rq) : voteS st 5 m sl l = { st with cs := votedL st.cs m sl l } ∧ canVote st 5 m = !votedB st.cs m := by
  have hvb := votedB_at st.cs m hm
  cases hh : st.cs[m].has
  · rw [vote_yes5 rfl rfl hm hh, can_yes5 rfl rfl hm hh, hvb, hh]
    refine ⟨?_, rfl⟩
    rw [votedL, hvb, hh, if_neg (by simp)]
  · have hc := can_no5 (kind := 5) (node := (m : Int)) rfl rfl hm hh
    rw [voteS_no hc, hc, hvb, hh]
    refine ⟨?_, rfl⟩
    rw [votedL, hvb, hh, if_pos rfl]

theorem DPl.vote5 {f : Nat} {r r' : Nat → Value} {q : Pl} {u : Value} {l : List Rv} {ps : List Vt} (hp : DPl w f r q D) (hs : ∀ x ∈ D, x ∈ D') (hu : RVsIn w u l D') (hm : l.map rvOf = refs ps 0) (hl : ps.length = 3 * f + 1) (h2 : r' 3 = u) (he : ∀ i, i ≠ 3 → r' i = r i) :
    DPl w f r' { q with sl := { q.sl with cs := ps } } D' := by
  have hp' := hp.mono hs
  obtain ⟨pl, p1, p2⟩ := hp'.dc.p
  obtain ⟨cl, c1, c2⟩ := hp'.dc.c
  exact {
    has := by rw [he 0 (by omega)]; exact hp.has
    dc := ⟨by rw [he 1 (by omega)]; exact hp'.dc.b, ⟨pl, by rw [he 2 (by omega)]; exact p1, p2⟩, l, by rw [h2]; exact hu, hm⟩
    told := by rw [he 4 (by omega)]; exact hp.told
    ct := hp'.ct.congr (fun i h1 _ => he i (by omega))
    dw := hp'.dw.congr (fun i h1 _ => he i (by omega))
    hc := by rw [he 15 (by omega)]; exact hp.hc
    hd := by rw [he 16 (by omega)]; exact hp.hd
    n := hp.n
    pl := hp.pl
    cl := hl }

theorem own_vote5 {bv : Value} {l : List Rq} (hw : Own B w0 W (docB p h m :: docI h m st :: batR bv l :: ss)) (n k : Nat) (hnk : n = k + 1) (hk : k < st.l.length) (hon : st.on = true) :
    ∃ pl, RVs W (m n 3) pl ∧ pl.map rvOf = refs st.l[k].sl.cs 0 ∧ ∀ (w' : World) (u : Value) (r : Rv) (l' : List Rv) (ps : List Vt), Upd [] W w' → r.b = bv → r.rs = l → RVs w' u l' → (∀ x ∈ l', x ∈ pl ∨ x = r) → l'.map rvOf = refs ps 0 → ps.length = 3 * st.f + 1 →
      ((u = m n 3 ∧ l' = pl) ∨ ∀ k ∈ blkOf u, W.heap.size ≤ k ∧ k < w'.heap.size) → AtD B w0 (w'.setCell ⟨p, 5 + n * 4 + 3, none⟩ u) p (st.upd k fun q => { q with sl := { q.sl with cs := ps } }) ss := by
  obtain ⟨D, ⟨h1, h2⟩, h3, h4⟩ := (hw.all (docI h m st) (by simp)).1
  obtain ⟨Dr, ⟨b1, b2⟩, b3, b4⟩ := (hw.all (batR bv l) (by simp)).1
  subst hnk
  obtain ⟨pl, p1, p2⟩ := (h1.pl k hk).dc.c
  have hn16 := h1.n
  have hpl := (h1.pl k hk).cl
  refine ⟨pl, p1.rvs, p2, fun w' u r l' ps hu hrb hrl hru hx hm hps hcase => ?_⟩
  have hw1 : Own B w0 (w'.setCell ⟨p, 5 + (k + 1) * 4 + 3, none⟩ u) (docB p h (setM m (k + 1) 3 u) :: docI h m st :: ss) := docB_put (hw.upd0 hu).rot'.rot'.drop.swap.swap (k + 1) 3 (by omega) (by omega) u
  have hsz : (w'.setCell ⟨p, 5 + (k + 1) * 4 + 3, none⟩ u).heap.size = w'.heap.size := by rw [hs_set]
  have hMs : ∀ k', k' ∈ Ms (docB p h (setM m (k + 1) 3 u) :: ss) → k' ∈ Ms (docB p h m :: docI h m st :: batR bv l :: ss) := fun k' hk' => by
    rcases (Ms_cons _ _ _).1 hk' with hk' | hk'
    · exact (Ms_cons _ _ _).2 (.inl hk')
    · exact (Ms_cons _ _ _).2 (.inr ((Ms_cons _ _ _).2 (.inr ((Ms_cons _ _ _).2 (.inr hk')))))
  have hu2 : Upd [p] w' (w'.setCell ⟨p, 5 + (k + 1) * 4 + 3, none⟩ u) := (Upd.refl _ _).setCell (.inl (by simp)) u
  have hpD : ∀ x ∈ D, x ≠ p := fun x hx e => h3 x hx ((Ms_cons _ _ _).2 (.inl (by simp [docB, e])))
  have hpDr : ∀ x ∈ Dr, x ≠ p := fun x hx e => b3 x hx ((Ms_cons _ _ _).2 (.inl (by simp [docB, e])))
  have hlt : p < W.heap.size := (docB_at hw.head).1
  have hkeep : ∀ x, x < w'.heap.size → x ≠ p → (w'.setCell ⟨p, 5 + (k + 1) * 4 + 3, none⟩ u).heap[x]? = w'.heap[x]? := fun x hx e => hu2.block x hx (by simp [e])
  have hd1 : DocI w' h m st D := h1.dep (fun x hx => hu.block x (h2 x hx) (by simp)) hu.size
  have hd2 : DocI (w'.setCell ⟨p, 5 + (k + 1) * 4 + 3, none⟩ u) h m st D := hd1.dep (fun x hx => hkeep x (Nat.lt_of_lt_of_le (h2 x hx) hu.size) (hpD x hx)) (by rw [hsz]; exact Nat.le_refl _)
  rcases hcase with ⟨rfl, rfl⟩ | hfr
  · have hv1 : RVsIn w' (m (k + 1) 3) l' D := p1.dep (fun x hx => hu.block x (h2 x hx) (by simp)) hu.size
    have hv2 : RVsIn (w'.setCell ⟨p, 5 + (k + 1) * 4 + 3, none⟩ (m (k + 1) 3)) (m (k + 1) 3) l' D := hv1.dep (fun x hx => hkeep x (Nat.lt_of_lt_of_le (h2 x hx) hu.size) (hpD x hx)) (by rw [hsz]; exact Nat.le_refl _)
    refine ⟨h, _, (docI_alter hw1.swap D ?_ ?_).swap⟩
    · refine hd2.row k hk _ (fun j hj => setM_row hj) (fun _ hx => hx) (DPl.vote5 (hd2.pl k hk) (fun _ hx => hx) hv2 hm hps setM_same (fun i hi => setM_col hi _)) (by simp [hon])
    · intro x hx
      exact ⟨by rw [hsz]; exact Nat.lt_of_lt_of_le (h2 x hx) hu.size, fun hn => h3 x hx (hMs x hn)⟩
  · have hv1 : RVsIn w' u l' (blkIf l'.length u ++ Dr ++ D) := p1.add hu h2 (r := r) (by rw [hrb, hrl]; exact b1.dep (fun x hx => hu.block x (b2 x hx) (by simp)) hu.size) hru hx
    have hlt2 : ∀ x ∈ blkIf l'.length u ++ Dr ++ D, x < w'.heap.size ∧ x ≠ p ∧ x ∉ Ms (docB p h m :: docI h m st :: batR bv l :: ss) := fun x hx => by
      simp only [List.mem_append, or_assoc] at hx
      rcases hx with hx | hx | hx
      · have := hfr x (blkIf_sub hx)
        exact ⟨this.2, by omega, hw.fresh this.1⟩
      · exact ⟨Nat.lt_of_lt_of_le (b2 x hx) hu.size, hpDr x hx, b3 x hx⟩
      · exact ⟨Nat.lt_of_lt_of_le (h2 x hx) hu.size, hpD x hx, h3 x hx⟩
    have hv2 : RVsIn (w'.setCell ⟨p, 5 + (k + 1) * 4 + 3, none⟩ u) u l' (blkIf l'.length u ++ Dr ++ D) := hv1.dep (fun x hx => hkeep x (hlt2 x hx).1 (hlt2 x hx).2.1) (by rw [hsz]; exact Nat.le_refl _)
    refine ⟨h, _, (docI_alter hw1.swap (blkIf l'.length u ++ Dr ++ D) ?_ ?_).swap⟩
    · refine hd2.row k hk _ (fun j hj => setM_row hj) (by simp +contextual) (DPl.vote5 (hd2.pl k hk) (by simp +contextual) hv2 hm hps setM_same (fun i hi => setM_col hi _)) (by simp [hon])
    · intro x hx
      exact ⟨by rw [hsz]; exact (hlt2 x hx).1, fun hn => (hlt2 x hx).2.2 (hMs x hn)⟩

theorem vote_idx {k : Nat} {seq : Int} {q : Pl} (hk : idx seq = some k) (hp : plAt st seq = some q) (hon : st.on = true) (kind node sl : Int) (l : List Rq) : voteB st kind seq node = canVote q.sl kind node ∧ voteI st kind seq node sl l = st.upd k fun p => { p with sl := voteS p.sl kind node sl l } := by
  constructor
  · simp only [voteB, hp, hon, Bool.true_and]
  · simp only [voteI, hk]; rw [if_pos hon]

theorem vote_same {k : Nat} {seq : Int} {q : Pl} (hk : idx seq = some k) (hkl : k < st.l.length) (hq : st.l[k] = q) (hp : plAt st seq = some q) (hon : st.on = true) {kind node : Int} (hc : canVote q.sl kind node = false) (sl : Int) (l : List Rq) : voteB st kind seq node = false ∧ voteI st kind seq node sl l = st := by
  obtain ⟨e1, e2⟩ := vote_idx hk hp hon kind node sl l
  rw [e1, e2]
  refine ⟨hc, ?_⟩
  have : st.l.modify k (fun p => { p with sl := voteS p.sl kind node sl l }) = st.l := by
    apply List.ext_getElem?
    intro j
    rw [List.getElem?_modify]
    by_cases e : k = j
    · subst e
      simp [hkl, hq, voteS_no hc]
    · simp [e]
  simp only [In.upd, this]

set_option maxHeartbeats 4000000 in
set_option maxRecDepth 100000 in
theorem ad_vote {v : Value} {l : List Rq} (hw : AtD B w0 W p st (batR v l :: ss)) (kind seq node sl : Int) (hn : l.length ≤ 100000) :
    Calls Try.prog 71 #[.pointer (some ⟨p, 0, none⟩), .int .i64 kind, .int .i64 seq, .int .i64 node, .int .i64 sl, v] W fun e w' => e = .returned (.bool (voteB st kind seq node)) ∧ AtD B w0 w' p (voteI st kind seq node sl l) ss := by
  obtain ⟨h, m, D, h3, hd⟩ := ad_docI hw
  have hb := h3.head
  have hbat := batR_out h3.drop.drop.head
  obtain ⟨ao, cap, rfl⟩ := bat_form hbat
  obtain ⟨c0, -, -, -, c4, hlt, fz⟩ := db_head hb hd
  have HW := Lib.hid (ad_drop hw)
  have hf1 := hd.f1
  have hf2 := hd.f2
  cases hon : st.on with
  | false =>
    rw [hon] at c4
    have HB := Lib.hid (show voteB st kind seq node = false by unfold voteB; cases plAt st seq <;> simp [hon])
    have HI := Lib.hid (show voteI st kind seq node sl l = st by unfold voteI; cases idx seq <;> simp [hon])
    clear hw h3 hd hb hon fz hbat c0
    go_enter Try.func71, Try.ntmps71
    go_wp2_with fail
    go_ret
    rw [HB.out, HI.out]
    exact ⟨rfl, HW.out⟩
  | true =>
    rw [hon] at c4
    cases hk : idx seq with
    | none =>
      have HE := Lib.hid (vote_off (st := st) hk kind node sl l)
      have HRG := Lib.hid (fun w => drange_any seq w)
      rw [hk] at HRG
      clear hw h3 hd hb hon fz hbat c0 hk
      go_enter Try.func71, Try.ntmps71
      go_wp2_with fail
      refine (HRG.out _).mono ?_
      rintro e w' ⟨rfl, rfl⟩
      go_wp2_with fail
      go_ret
      rw [HE.out.1, HE.out.2]
      exact ⟨rfl, HW.out⟩
    | some k =>
      obtain ⟨hkl, hp, hseq⟩ := pl_of hd.n hk
      have HRG := Lib.hid (fun w => drange_any seq w)
      rw [hk] at HRG
      have hk16 : k < 16 := (idx_lt hk).1
      have hpl := (hd.pl k hkl).pl
      have hcl := (hd.pl k hkl).cl
      have HV := Lib.hid (vote_idx hk hp hon kind node sl l)
      have HVN := Lib.hid (fun hc : canVote st.l[k].sl kind node = false => vote_same hk hkl rfl hp hon hc sl l)
      cases hir : inR st.f node with
      | false =>
        have HE := Lib.hid (HVN.out (canVote_out (f := st.f) (kind := kind) ⟨hpl, hcl⟩ hir))
        clear hw h3 hd hb hon fz hbat hk hp hpl hcl HV HVN hseq
        by_cases h0 : 0 ≤ node
        · have hnd0 : decide (node < 0) = false := by simp; omega
          have hnd1 : decide (3 * (st.f : Int) + 1 ≤ node) = true := by rw [inR_yes h0] at hir; simp at hir ⊢; omega
          clear hir
          go_enter Try.func71, Try.ntmps71
          go_wp2_with fail
          refine (HRG.out _).mono ?_
          rintro e w' ⟨rfl, rfl⟩
          go_wp2_with fail
          refine (rnodes_any st.f _ (by omega) (by omega)).mono ?_
          rintro e w' ⟨rfl, rfl⟩
          go_wp2_with fail
          go_ret
          rw [HE.out.1, HE.out.2]
          exact ⟨rfl, HW.out⟩
        · have hnd0 : decide (node < 0) = true := by simp; omega
          clear hir
          go_enter Try.func71, Try.ntmps71
          go_wp2_with fail
          refine (HRG.out _).mono ?_
          rintro e w' ⟨rfl, rfl⟩
          go_wp2_with fail
          go_ret
          rw [HE.out.1, HE.out.2]
          exact ⟨rfl, HW.out⟩
      | true =>
        obtain ⟨mm, rfl, hmm⟩ := inR_nat hir
        have hnd0 : decide ((mm : Int) < 0) = false := by simp
        have hnd1 : decide (3 * (st.f : Int) + 1 ≤ (mm : Int)) = false := by simp; omega
        obtain ⟨-, -, s2, s3⟩ := db_slot hb hd (k + 1) k rfl hkl
        by_cases hk4 : kind = 4
        · subst hk4
          have h3d := h3.upd0 (Upd.refl [] W).drew
          obtain ⟨pl, hrv, hmap, hpb⟩ := own_vote4 h3d (k + 1) k rfl hkl hon
          obtain ⟨e1, e2⟩ := dvote4 (st := st.l[k].sl) (m := mm) (by omega) sl l
          have HADD := Lib.hid (add_refs (m (k + 1) 2) (.slice ao l.length cap) pl st.l[k].sl.ps mm sl l _ (by omega) (by omega) hmap hrv (batR_out h3d.drop.drop.head) hn)
          have HB := Lib.hid (show voteB st 4 seq mm = !votedB st.l[k].sl.ps mm by rw [HV.out.1, e2])
          have HI := Lib.hid (show voteI st 4 seq mm sl l = st.upd k fun q => { q with sl := { q.sl with ps := votedL st.l[k].sl.ps mm sl l } } by
            rw [HV.out.2]
            simp only [In.upd, In.mk.injEq, true_and]
            apply List.ext_getElem?
            intro j
            rw [List.getElem?_modify, List.getElem?_modify]
            by_cases e : k = j
            · subst e
              simp [hkl, e1]
            · simp [e])
          have HPB := Lib.hid hpb
          have hvl : (votedL st.l[k].sl.ps mm sl l).length = 3 * st.f + 1 := by rw [votedL_len]; omega
          have hal : ∃ a0 n0 c0, m (k + 1) 2 = .slice a0 n0 c0 := rvs_form hrv
          obtain ⟨a0, n0, c00, hm0⟩ := hal
          have HM := Lib.hid hm0
          clear hw hd hb hon hbat hk hp hpl hcl HV HVN hir e1 e2 hrv hmap hpb hm0
          generalize votedL st.l[k].sl.ps mm sl l = ps at *
          generalize votedB st.l[k].sl.ps mm = bv at *
          rw [HM.out] at HADD s2
          have HH3 := Lib.hid h3
          clear h3 h3d
          generalize hnn : k + 1 = n at *
          subst hseq
          go_enter Try.func71, Try.ntmps71
          go_wp2_with fail
          refine (HRG.out _).mono ?_
          rintro e w' ⟨rfl, rfl⟩
          go_wp2_with fail
          refine (rnodes_any st.f _ (by omega) (by omega)).mono ?_
          rintro e w' ⟨rfl, rfl⟩
          go_wp2_with fail
          refine Mix.wp_text2 (by kernel_rfl) (by kernel_rfl) ?_
          go_wp2_with fail
          refine HADD.out.mono ?_
          rintro e w2 ⟨u, l', rfl, hu2, hr2, hm2, hx2, hc2⟩
          obtain ⟨au, nu, cu, rfl⟩ := rvs_form hr2
          have HQ := Lib.hid (HPB.out w2 _ _ l' ps hu2 rfl rfl hr2 hx2 hm2 hvl (by rw [HM.out]; exact hc2))
          have y2 : w2.cell? ⟨p, 5 + n * 4 + 2, none⟩ = some (.slice a0 n0 c00) := (upd_cell0 hu2 hlt).trans s2
          obtain ⟨h', m', D', h3', hd'⟩ := ad_docI (⟨h, m, (HH3.out.drew.upd0 hu2)⟩ : AtD B w0 w2 p st _)
          have z2 := (db_head h3'.head hd').2.2.2.2.2.2 (5 + n * 4 + 2)
          clear hu2 hr2 hm2 hx2 hc2 h3' hd'
          go_wp2_with fail
          refine ⟨by rfl, ?_⟩
          go_wp2_with fail
          go_ret
          rw [HB.out, HI.out]
          exact ⟨rfl, HQ.out⟩
        · have hkb4 : (kind == 4) = false := by simp [hk4]
          by_cases hk5 : kind = 5
          · subst hk5
            have h3d := h3.upd0 (Upd.refl [] W).drew
            obtain ⟨pl, hrv, hmap, hpb⟩ := own_vote5 h3d (k + 1) k rfl hkl hon
            obtain ⟨e1, e2⟩ := dvote5 (st := st.l[k].sl) (m := mm) (by omega) sl l
            have HADD := Lib.hid (add_refs (m (k + 1) 3) (.slice ao l.length cap) pl st.l[k].sl.cs mm sl l _ (by omega) (by omega) hmap hrv (batR_out h3d.drop.drop.head) hn)
            have HB := Lib.hid (show voteB st 5 seq mm = !votedB st.l[k].sl.cs mm by rw [HV.out.1, e2])
            have HI := Lib.hid (show voteI st 5 seq mm sl l = st.upd k fun q => { q with sl := { q.sl with cs := votedL st.l[k].sl.cs mm sl l } } by
              rw [HV.out.2]
              simp only [In.upd, In.mk.injEq, true_and]
              apply List.ext_getElem?
              intro j
              rw [List.getElem?_modify, List.getElem?_modify]
              by_cases e : k = j
              · subst e
                simp [hkl, e1]
              · simp [e])
            have HPB := Lib.hid hpb
            have hvl : (votedL st.l[k].sl.cs mm sl l).length = 3 * st.f + 1 := by rw [votedL_len]; omega
            have hal : ∃ a0 n0 c0, m (k + 1) 3 = .slice a0 n0 c0 := rvs_form hrv
            obtain ⟨a0, n0, c00, hm0⟩ := hal
            have HM := Lib.hid hm0
            clear hw hd hb hon hbat hk hp hpl hcl HV HVN hir e1 e2 hrv hmap hpb hm0
            generalize votedL st.l[k].sl.cs mm sl l = ps at *
            generalize votedB st.l[k].sl.cs mm = bv at *
            rw [HM.out] at HADD s3
            have HH3 := Lib.hid h3
            clear h3 h3d
            generalize hnn : k + 1 = n at *
            subst hseq
            go_enter Try.func71, Try.ntmps71
            go_wp2_with fail
            refine (HRG.out _).mono ?_
            rintro e w' ⟨rfl, rfl⟩
            go_wp2_with fail
            refine (rnodes_any st.f _ (by omega) (by omega)).mono ?_
            rintro e w' ⟨rfl, rfl⟩
            go_wp2_with fail
            refine Mix.wp_text2 (by kernel_rfl) (by kernel_rfl) ?_
            go_wp2_with fail
            refine HADD.out.mono ?_
            rintro e w2 ⟨u, l', rfl, hu2, hr2, hm2, hx2, hc2⟩
            obtain ⟨au, nu, cu, rfl⟩ := rvs_form hr2
            have HQ := Lib.hid (HPB.out w2 _ _ l' ps hu2 rfl rfl hr2 hx2 hm2 hvl (by rw [HM.out]; exact hc2))
            have y3 : w2.cell? ⟨p, 5 + n * 4 + 3, none⟩ = some (.slice a0 n0 c00) := (upd_cell0 hu2 hlt).trans s3
            obtain ⟨h', m', D', h3', hd'⟩ := ad_docI (⟨h, m, (HH3.out.drew.upd0 hu2)⟩ : AtD B w0 w2 p st _)
            have z3 := (db_head h3'.head hd').2.2.2.2.2.2 (5 + n * 4 + 3)
            clear hu2 hr2 hm2 hx2 hc2 h3' hd'
            go_wp2_with fail
            refine ⟨by rfl, ?_⟩
            go_wp2_with fail
            go_ret
            rw [HB.out, HI.out]
            exact ⟨rfl, HQ.out⟩
          · have hkb5 : (kind == 5) = false := by simp [hk5]
            have HE := Lib.hid (HVN.out (canVote_kind hk4 hk5 _))
            clear hw h3 hd hb hon fz hbat hk hp hpl hcl HV HVN hseq hir s2 s3 hk4 hk5
            go_enter Try.func71, Try.ntmps71
            go_wp2_with fail
            refine (HRG.out _).mono ?_
            rintro e w' ⟨rfl, rfl⟩
            go_wp2_with fail
            refine (rnodes_any st.f _ (by omega) (by omega)).mono ?_
            rintro e w' ⟨rfl, rfl⟩
            go_wp2_with fail
            go_ret
            rw [HE.out.1, HE.out.2]
            exact ⟨rfl, HW.out⟩

end
end Go.Proofs.Ytdeadekeffficaa

/- inst: Adopt. -/
namespace Go.Proofs.Ytdeadekeffficaa
open Go.RowKit Go.Heap

section
variable {B : Nat} {w0 W W' : World} {ss rs : List Res} {x : Ins}

theorem adopt_off {c : Cp} {st : In} (h : adoptB st c = false) : adoptI st c = st := by
  unfold adoptI; rw [h]; cases idx c.seq <;> rfl

set_option maxHeartbeats 2000000 in
set_option maxRecDepth 100000 in
theorem ins_adopt (h : Own B w0 W (instR x :: ss)) {i : Nat} (hi : x.i = i) (c : Ct) (hb : Bat W c.vb c.rs) (hbn : c.rs.length ≤ 100000) (hv : Vts W c.vv c.vs) (hvn : c.vs.length ≤ 100000) :
    Calls Try.prog 39 #[.pointer (some ⟨i, 0, none⟩), ctAgg c] W (InsP B w0 W i (adoptI x.st c.cp) ss (.bool (adoptB x.st c.cp))) := by
  subst hi
  obtain ⟨view, inst, seq, vb, vv, l, vs⟩ := c
  simp only at hb hbn hv hvn
  obtain ⟨ao, cap, rfl⟩ := bat_form hb
  obtain ⟨co, cav, rfl⟩ := vts_form hv
  have hu0 : Upd [] W (W.alloc (ctO view inst seq (.slice ao l.length cap) (.slice co vs.length cav))) := (Upd.refl _ _).alloc _
  have HB := Lib.hid (hb.upd hu0 (by simp))
  have HV := Lib.hid (Reads.upd hv hu0 (by simp))
  have hz := own_open (h.box (ctO view inst seq (.slice ao l.length cap) (.slice co vs.length cav))).swap
  obtain ⟨-, c1, -, -, -, c5, l1, l2⟩ := oi_cells hz
  obtain ⟨f0, f1, f2, f3, f4, -, -⟩ := ct_cells (own_shut hz).drop.blk_out
  clear hb hv hu0
  cases hk : idx seq with
  | none =>
    have hs := idx_none hk
    have HE := Lib.hid (show adoptB x.st ⟨view, inst, seq, l, vs⟩ = false by simp [adoptB, plAt_none hk])
    have HA := Lib.hid (at_no x.i x.b x.cap seq _ hs c5)
    have HZ := Lib.hid hz
    clear hz h hk hs c5 HB HV c1
    go_enter Try.func39, Try.ntmps39
    go_wp2_with fail
    refine HA.out.mono ?_
    rintro e w' ⟨rfl, rfl⟩
    go_wp2_with fail
    go_quiet (fail)
    go_wp2_with fail
    go_ret
    rw [show (Ct.cp ⟨view, inst, seq, .slice ao l.length cap, .slice co vs.length cav, l, vs⟩) = ⟨view, inst, seq, l, vs⟩ from rfl, HE.out]
    exact insP_same ((own_shut HZ.out).swap.drop.upd0 ((Upd.refl _ _).drewN _)) (adopt_off HE.out)
  | some k =>
    obtain ⟨hl, hp⟩ := plAt_some (oi_ok hz) hk
    obtain ⟨i1, i2⟩ := idx_lt hk
    have HA := Lib.hid (at_yes x.i x.b x.cap seq _ (by omega) (by omega) c5)
    have hks : seq.toNat - 1 = k := by omega
    rw [hks] at HA
    have cd := oi_done hz k hl
    cases hd : x.l[k].done
    · rw [hd] at cd
      by_cases hin : inst = x.num
      · have hinb : (inst != x.num) = false := by simp [hin]
        have HE := Lib.hid (show adoptB x.st ⟨view, inst, seq, l, vs⟩ = true by simp only [adoptB, hp]; simp [Pm.pl, Ins.st, hd, hin])
        have HI := Lib.hid (show adoptI x.st ⟨view, inst, seq, l, vs⟩ = x.st.upd k fun p => { p with done := true, dw := ⟨view, inst, seq, l, vs⟩ } by simp only [adoptI, hk]; rw [if_pos HE.out])
        have HZ := Lib.hid hz
        clear hz h hk hp i2 hks hd c5 hin
        go_enter Try.func39, Try.ntmps39
        go_wp2_with fail
        refine HA.out.mono ?_
        rintro e w' ⟨rfl, rfl⟩
        go_wp2_with fail
        go_quiet (fail)
        go_wp2_with fail
        refine (fresh_ct ⟨view, inst, seq, .slice ao l.length cap, .slice co vs.length cav, l, vs⟩ _ (HB.out.upd (M := []) ((Upd.refl _ _).drewN _) (by simp)) hbn (Reads.upd (M := []) HV.out ((Upd.refl _ _).drewN _) (by simp)) hvn).mono ?_
        rintro e w3 ⟨⟨view', inst', seq', vb', vv', l', vs'⟩, rfl, hcp, hu3, hb3, hv3, n1, n2⟩
        simp only at hb3 hv3 n1 n2
        simp only [Ct.cp, Cp.mk.injEq] at hcp
        obtain ⟨rfl, rfl, rfl, rfl, rfl⟩ := hcp
        obtain ⟨ao6, cap6, rfl⟩ := bat_form hb3
        obtain ⟨co6, cav6, rfl⟩ := vts_form hv3
        have H3 := Lib.hid (own_red2 (Own.upd0 HZ.out ((Upd.refl _ _).drewN _)) hu3 hb3 hv3 n1 n2)
        clear hu3 hb3 hv3 n1 n2 HA HB HV f0 f1 f2 f3 f4 cd c1
        have ho3 := H3.out.drop.drop
        have c8 := oi_at ho3 k hl 8 (by omega)
        have c9 := oi_at ho3 k hl 9 (by omega)
        have c10 := oi_at ho3 k hl 10 (by omega)
        have c11 := oi_at ho3 k hl 11 (by omega)
        have c12 := oi_at ho3 k hl 12 (by omega)
        have c13 := oi_at ho3 k hl 13 (by omega)
        obtain ⟨fzb, -⟩ := oi_fz ho3
        have z8 := fzb (k * 14 + 8)
        have z9 := fzb (k * 14 + 9)
        have z10 := fzb (k * 14 + 10)
        have z11 := fzb (k * 14 + 11)
        have z12 := fzb (k * 14 + 12)
        have z13 := fzb (k * 14 + 13)
        clear ho3 fzb
        simp only [pmCells, List.getElem?_cons_succ, List.getElem?_cons_zero] at c8 c9 c10 c11 c12 c13
        go_wp2_with fail
        have H4 := Lib.hid (oi_dw H3.out k hl view' inst' seq' hbn hvn)
        go_ret
        rw [show (Ct.cp ⟨view', inst', seq', .slice ao l'.length cap, .slice co vs'.length cav, l', vs'⟩) = ⟨view', inst', seq', l', vs'⟩ from rfl, HE.out, HI.out]
        refine ⟨rfl, x.sl k { x.l[k] with done := true, dw := ⟨view', inst', seq', .slice ao6 l'.length cap6, .slice co6 vs'.length cav6, l', vs'⟩ }, rfl, st_set x k hl _ _ rfl, ?_⟩
        exact (own_shut H4.out).swap.drop
      · have hinb : (inst != x.num) = true := by simp [hin]
        have HE := Lib.hid (show adoptB x.st ⟨view, inst, seq, l, vs⟩ = false by simp only [adoptB, hp]; simp [Pm.pl, Ins.st, hin])
        have HZ := Lib.hid hz
        clear hz h hk hp i2 hks hd c5 hin
        go_enter Try.func39, Try.ntmps39
        go_wp2_with fail
        refine HA.out.mono ?_
        rintro e w' ⟨rfl, rfl⟩
        go_wp2_with fail
        go_quiet (fail)
        go_wp2_with fail
        go_ret
        rw [show (Ct.cp ⟨view, inst, seq, .slice ao l.length cap, .slice co vs.length cav, l, vs⟩) = ⟨view, inst, seq, l, vs⟩ from rfl, HE.out]
        exact insP_same ((own_shut HZ.out).swap.drop.upd0 ((Upd.refl _ _).drewN _)) (adopt_off HE.out)
    · rw [hd] at cd
      have HE := Lib.hid (show adoptB x.st ⟨view, inst, seq, l, vs⟩ = false by simp only [adoptB, hp]; simp [Pm.pl, hd])
      have HZ := Lib.hid hz
      clear hz h hk hp i2 hks hd c5
      go_enter Try.func39, Try.ntmps39
      go_wp2_with fail
      refine HA.out.mono ?_
      rintro e w' ⟨rfl, rfl⟩
      go_wp2_with fail
      go_quiet (fail)
      go_wp2_with fail
      go_ret
      rw [show (Ct.cp ⟨view, inst, seq, .slice ao l.length cap, .slice co vs.length cav, l, vs⟩) = ⟨view, inst, seq, l, vs⟩ from rfl, HE.out]
      exact insP_same ((own_shut HZ.out).swap.drop.upd0 ((Upd.refl _ _).drewN _)) (adopt_off HE.out)

theorem ai_adopt {i : Nat} {st : In} (h : AtI B w0 W i st ss) (c : Ct) (hb : Bat W c.vb c.rs) (hbn : c.rs.length ≤ 100000) (hv : Vts W c.vv c.vs) (hvn : c.vs.length ≤ 100000) :
    Calls Try.prog 39 #[.pointer (some ⟨i, 0, none⟩), ctAgg c] W fun e w' => e = .returned (.bool (adoptB st c.cp)) ∧ AtI B w0 w' i (adoptI st c.cp) ss := by
  obtain ⟨x, h1, rfl, h3⟩ := h
  exact ins_adopt h3 h1 c hb hbn hv hvn

end
end Go.Proofs.Ytdeadekeffficaa

/- The document's instance: Adopt. -/
namespace Go.Proofs.Ytdeadekeffficaa
open Go.RowKit Go.Heap

abbrev votR (v : Value) (vs : Vs) : Res := redR v 2 vs.length (vsCells vs)

def setCt (m : Nat → Nat → Value) (n a : Nat) (c : Ct) : Nat → Nat → Value := setM (setM (setM (setM (setM m n a (.int .i64 c.view)) n (a + 1) (.int .i64 c.inst)) n (a + 2) (.int .i64 c.seq)) n (a + 3) c.vb) n (a + 4) c.vv
abbrev stCt (w : World) (p o : Nat) (c : Ct) : World := ((((w.setCell ⟨p, o, none⟩ (.int .i64 c.view)).setCell ⟨p, o + 1, none⟩ (.int .i64 c.inst)).setCell ⟨p, o + 2, none⟩ (.int .i64 c.seq)).setCell ⟨p, o + 3, none⟩ c.vb).setCell ⟨p, o + 4, none⟩ c.vv

section
variable {w : World} {b p o : Nat} {x0 x1 x2 x3 x4 y0 y1 y2 y3 y4 : Value}
theorem k5_sets (h : b ≠ p) (k : w.cell? ⟨b, 0, none⟩ = some x0 ∧ w.cell? ⟨b, 1, none⟩ = some x1 ∧ w.cell? ⟨b, 2, none⟩ = some x2 ∧ w.cell? ⟨b, 3, none⟩ = some x3 ∧ w.cell? ⟨b, 4, none⟩ = some x4) :
    (((((w.setCell ⟨p, o, none⟩ y0).setCell ⟨p, o + 1, none⟩ y1).setCell ⟨p, o + 2, none⟩ y2).setCell ⟨p, o + 3, none⟩ y3).setCell ⟨p, o + 4, none⟩ y4).cell? ⟨b, 0, none⟩ = some x0 ∧ (((((w.setCell ⟨p, o, none⟩ y0).setCell ⟨p, o + 1, none⟩ y1).setCell ⟨p, o + 2, none⟩ y2).setCell ⟨p, o + 3, none⟩ y3).setCell ⟨p, o + 4, none⟩ y4).cell? ⟨b, 1, none⟩ = some x1 ∧ (((((w.setCell ⟨p, o, none⟩ y0).setCell ⟨p, o + 1, none⟩ y1).setCell ⟨p, o + 2, none⟩ y2).setCell ⟨p, o + 3, none⟩ y3).setCell ⟨p, o + 4, none⟩ y4).cell? ⟨b, 2, none⟩ = some x2 ∧ (((((w.setCell ⟨p, o, none⟩ y0).setCell ⟨p, o + 1, none⟩ y1).setCell ⟨p, o + 2, none⟩ y2).setCell ⟨p, o + 3, none⟩ y3).setCell ⟨p, o + 4, none⟩ y4).cell? ⟨b, 3, none⟩ = some x3 ∧ (((((w.setCell ⟨p, o, none⟩ y0).setCell ⟨p, o + 1, none⟩ y1).setCell ⟨p, o + 2, none⟩ y2).setCell ⟨p, o + 3, none⟩ y3).setCell ⟨p, o + 4, none⟩ y4).cell? ⟨b, 4, none⟩ = some x4 := by
  have e : ∀ i, (((((w.setCell ⟨p, o, none⟩ y0).setCell ⟨p, o + 1, none⟩ y1).setCell ⟨p, o + 2, none⟩ y2).setCell ⟨p, o + 3, none⟩ y3).setCell ⟨p, o + 4, none⟩ y4).cell? ⟨b, i, none⟩ = w.cell? ⟨b, i, none⟩ := fun i => World.cell?_of_block (by rw [hp_other h, hp_other h, hp_other h, hp_other h, hp_other h])
  simp only [e]
  exact k
theorem k5_set (h : b ≠ p) (k : w.cell? ⟨b, 0, none⟩ = some x0 ∧ w.cell? ⟨b, 1, none⟩ = some x1 ∧ w.cell? ⟨b, 2, none⟩ = some x2 ∧ w.cell? ⟨b, 3, none⟩ = some x3 ∧ w.cell? ⟨b, 4, none⟩ = some x4) :
    (w.setCell ⟨p, o, none⟩ y0).cell? ⟨b, 0, none⟩ = some x0 ∧ (w.setCell ⟨p, o, none⟩ y0).cell? ⟨b, 1, none⟩ = some x1 ∧ (w.setCell ⟨p, o, none⟩ y0).cell? ⟨b, 2, none⟩ = some x2 ∧ (w.setCell ⟨p, o, none⟩ y0).cell? ⟨b, 3, none⟩ = some x3 ∧ (w.setCell ⟨p, o, none⟩ y0).cell? ⟨b, 4, none⟩ = some x4 := by
  have e : ∀ i, (w.setCell ⟨p, o, none⟩ y0).cell? ⟨b, i, none⟩ = w.cell? ⟨b, i, none⟩ := fun i => World.cell?_of_block (by rw [hp_other h])
  simp only [e]
  exact k
end

section
variable {B : Nat} {w0 w W W' : World} {ss rs : List Res} {p : Nat} {st : In} {h h' : Nat → Value} {m m' : Nat → Nat → Value} {D D' : List Nat} {A : List Nat}

theorem docB_dw (hw : Own B w0 W (docB p h m :: rs)) (n : Nat) (hn : n < 17) (c : Ct) : Own B w0 (stCt W p (175 + n * 5) c) (docB p h (setCt m n 10 c) :: rs) :=
  docB_put (docB_put (docB_put (docB_put (docB_put hw n 10 hn (by omega) _) n 11 hn (by omega) _) n 12 hn (by omega) _) n 13 hn (by omega) _) n 14 hn (by omega) _
theorem docB_ct (hw : Own B w0 W (docB p h m :: rs)) (n : Nat) (hn : n < 17) (c : Ct) : Own B w0 (stCt W p (90 + n * 5) c) (docB p h (setCt m n 5 c) :: rs) :=
  docB_put (docB_put (docB_put (docB_put (docB_put hw n 5 hn (by omega) _) n 6 hn (by omega) _) n 7 hn (by omega) _) n 8 hn (by omega) _) n 9 hn (by omega) _

theorem setCt_row {n a : Nat} {c : Ct} {j : Nat} (hj : j ≠ n) : setCt m n a c j = m j := by
  unfold setCt; rw [setM_row hj, setM_row hj, setM_row hj, setM_row hj, setM_row hj]
theorem setCt_col {n a : Nat} {c : Ct} {i : Nat} (hi : i < a ∨ a + 4 < i) : setCt m n a c n i = m n i := by
  unfold setCt; rw [setM_col (by omega), setM_col (by omega), setM_col (by omega), setM_col (by omega), setM_col (by omega)]
theorem setCt_ctv {n a : Nat} {c : Ct} (hc : CtIn w c D) : CtV w (setCt m n a c n) a c.cp D :=
  ⟨c, rfl, hc, by simp [setCt, setM], by simp [setCt, setM], by simp [setCt, setM], by simp [setCt, setM], by simp [setCt, setM]⟩

theorem DPl.dwset {f : Nat} {r r' : Nat → Value} {q : Pl} {c : Cp} (hp : DPl w f r q D) (hs : ∀ x ∈ D, x ∈ D') (hc : CtV w r' 10 c D') (h16 : r' 16 = .bool true) (he : ∀ i, i < 10 ∨ i = 15 → r' i = r i) : DPl w f r' { q with done := true, dw := c } D' :=
  { has := by rw [he 0 (by omega)]; exact hp.has
    dc := by rw [he 1 (by omega), he 2 (by omega), he 3 (by omega)]; exact (hp.mono hs).dc
    told := by rw [he 4 (by omega)]; exact hp.told
    ct := (hp.mono hs).ct.congr (fun i h1 _ => he i (by omega))
    dw := hc
    hc := by rw [he 15 (by omega)]; exact hp.hc
    hd := h16
    n := hp.n
    pl := hp.pl
    cl := hp.cl }

theorem DPl.ctset {f : Nat} {r r' : Nat → Value} {q : Pl} {c : Cp} (hp : DPl w f r q D) (hs : ∀ x ∈ D, x ∈ D') (hc : CtV w r' 5 c D') (h4 : r' 4 = .bool true) (h15 : r' 15 = .bool true) (he : ∀ i, i < 4 ∨ (9 < i ∧ i ≠ 15) → r' i = r i) : DPl w f r' { q with told := true, has := true, ct := c } D' :=
  { has := by rw [he 0 (by omega)]; exact hp.has
    dc := by rw [he 1 (by omega), he 2 (by omega), he 3 (by omega)]; exact (hp.mono hs).dc
    told := h4
    ct := hc
    dw := (hp.mono hs).dw.congr (fun i h1 _ => he i (by omega))
    hc := h15
    hd := by rw [he 16 (by omega)]; exact hp.hd
    n := hp.n
    pl := hp.pl
    cl := hp.cl }

theorem ctIn_of {c : Ct} {D1 D2 : List Nat} (h1 : BatIn w c.vb c.rs D1) (h2 : ReadsIn w c.vv 2 c.vs.length (vsCells c.vs) D2) (n1 : c.rs.length ≤ 100000) (n2 : c.vs.length ≤ 100000) (hs1 : ∀ x ∈ D1, x ∈ D) (hs2 : ∀ x ∈ D2, x ∈ D) : CtIn w c D := ⟨ReadsIn.mono h1 hs1, n1, ReadsIn.mono h2 hs2, n2⟩

/-- A slot is done, with a certificate whose parts are at hand. -/
theorem own_docdw {c : Ct} (hw : Own B w0 W (docB p h m :: docI h m st :: batR c.vb c.rs :: votR c.vv c.vs :: ss)) (n1 : c.rs.length ≤ 100000) (n2 : c.vs.length ≤ 100000) (n k : Nat) (hnk : n = k + 1) (hk : k < st.l.length) (hk17 : n < 17) :
    AtD B w0 ((stCt W p (175 + n * 5) c).setCell ⟨p, 277 + n, none⟩ (.bool true)) p (st.upd k fun q => { q with done := true, dw := c.cp }) ss := by
  have h1 : Own B w0 ((stCt W p (175 + n * 5) c).setCell ⟨p, 277 + n, none⟩ (.bool true)) (docB p h (setM (setCt m n 10 c) n 16 (.bool true)) :: docI h m st :: batR c.vb c.rs :: votR c.vv c.vs :: ss) := docB_put (docB_dw hw n hk17 c) n 16 hk17 (by omega) (.bool true)
  subst hnk
  have h2 := h1.rot'
  have h3 : Own B w0 _ (imm (fun w D => DocI w h m st D ∧ BatIn w c.vb c.rs D) (fun ⟨a, b⟩ hk hs => ⟨a.dep hk hs, ReadsIn.dep b hk hs⟩) :: docB p h (setM (setCt m (k + 1) 10 c) (k + 1) 16 (.bool true)) :: votR c.vv c.vs :: ss) :=
    own_join h2 (fun D D1 hd hb => ⟨{ hd with pl := fun k hk => (hd.pl k hk).mono (by simp +contextual) }, ReadsIn.mono hb (by simp +contextual)⟩)
  have h4 : Own B w0 _ (imm (fun w D => DocI w h m st D ∧ BatIn w c.vb c.rs D) (fun ⟨a, b⟩ hk hs => ⟨a.dep hk hs, ReadsIn.dep b hk hs⟩) :: votR c.vv c.vs :: docB p h (setM (setCt m (k + 1) 10 c) (k + 1) 16 (.bool true)) :: ss) := h3.perm ((List.Perm.swap _ _ _).cons _)
  refine ⟨h, setM (setCt m (k + 1) 10 c) (k + 1) 16 (.bool true), Own.swap (own_join h4 ?_)⟩
  intro D D1 hd hv
  obtain ⟨hd, hb⟩ := hd
  refine hd.row k hk _ (fun j hj => by rw [setM_row hj, setCt_row hj]) (by simp +contextual) (DPl.dwset (hd.pl k hk) (by simp +contextual) ?_ setM_same ?_) (fun e => hd.off e st.l[k] (List.getElem_mem hk))
  · exact (setCt_ctv (m := m) (n := k + 1) (a := 10) (ctIn_of (D := D ++ D1) hb hv n1 n2 (by simp +contextual) (by simp +contextual))).congr (fun i _ hi => setM_col (by omega) _)
  · intro i hi
    rw [setM_col (by omega), setCt_col (by omega)]

/-- A certificate is told, with parts that are at hand. -/
theorem own_docct {c : Ct} (hw : Own B w0 W (docB p h m :: docI h m st :: batR c.vb c.rs :: votR c.vv c.vs :: ss)) (n1 : c.rs.length ≤ 100000) (n2 : c.vs.length ≤ 100000) (n k : Nat) (hnk : n = k + 1) (hk : k < st.l.length) (hk17 : n < 17) :
    AtD B w0 ((stCt (W.setCell ⟨p, 73 + n, none⟩ (.bool true)) p (90 + n * 5) c).setCell ⟨p, 260 + n, none⟩ (.bool true)) p (st.upd k fun q => { q with told := true, has := true, ct := c.cp }) ss := by
  have h1 : Own B w0 ((stCt (W.setCell ⟨p, 73 + n, none⟩ (.bool true)) p (90 + n * 5) c).setCell ⟨p, 260 + n, none⟩ (.bool true)) (docB p h (setM (setCt (setM m n 4 (.bool true)) n 5 c) n 15 (.bool true)) :: docI h m st :: batR c.vb c.rs :: votR c.vv c.vs :: ss) :=
    docB_put (docB_ct (docB_put hw n 4 hk17 (by omega) (.bool true)) n hk17 c) n 15 hk17 (by omega) (.bool true)
  subst hnk
  have h2 := h1.rot'
  have h3 : Own B w0 _ (imm (fun w D => DocI w h m st D ∧ BatIn w c.vb c.rs D) (fun ⟨a, b⟩ hk hs => ⟨a.dep hk hs, ReadsIn.dep b hk hs⟩) :: docB p h (setM (setCt (setM m (k + 1) 4 (.bool true)) (k + 1) 5 c) (k + 1) 15 (.bool true)) :: votR c.vv c.vs :: ss) :=
    own_join h2 (fun D D1 hd hb => ⟨{ hd with pl := fun k hk => (hd.pl k hk).mono (by simp +contextual) }, ReadsIn.mono hb (by simp +contextual)⟩)
  have h4 : Own B w0 _ (imm (fun w D => DocI w h m st D ∧ BatIn w c.vb c.rs D) (fun ⟨a, b⟩ hk hs => ⟨a.dep hk hs, ReadsIn.dep b hk hs⟩) :: votR c.vv c.vs :: docB p h (setM (setCt (setM m (k + 1) 4 (.bool true)) (k + 1) 5 c) (k + 1) 15 (.bool true)) :: ss) := h3.perm ((List.Perm.swap _ _ _).cons _)
  refine ⟨h, setM (setCt (setM m (k + 1) 4 (.bool true)) (k + 1) 5 c) (k + 1) 15 (.bool true), Own.swap (own_join h4 ?_)⟩
  intro D D1 hd hv
  obtain ⟨hd, hb⟩ := hd
  refine hd.row k hk _ (fun j hj => by rw [setM_row hj, setCt_row hj, setM_row hj]) (by simp +contextual) (DPl.ctset (hd.pl k hk) (by simp +contextual) ?_ ?_ setM_same ?_) (fun e => hd.off e st.l[k] (List.getElem_mem hk))
  · exact (setCt_ctv (m := setM m (k + 1) 4 (.bool true)) (n := k + 1) (a := 5) (ctIn_of (D := D ++ D1) hb hv n1 n2 (by simp +contextual) (by simp +contextual))).congr (fun i _ hi => setM_col (by omega) _)
  · rw [setM_col (by omega), setCt_col (by omega), setM_same]
  · intro i hi
    rw [setM_col (by omega), setCt_col (by omega), setM_col (by omega)]

/-- What the other cells of a place hold. -/
theorem db_more (hb : (docB p h m).At w A) (hd : DocI w h m st D) (n k : Nat) (hnk : n = k + 1) (hk : k < st.l.length) :
    w.cell? ⟨p, 73 + n, none⟩ = some (.bool st.l[k].told) ∧ w.cell? ⟨p, 260 + n, none⟩ = some (.bool st.l[k].has) ∧ w.cell? ⟨p, 277 + n, none⟩ = some (.bool st.l[k].done) := by
  have hn := hd.n
  subst hnk
  have hp := hd.pl k hk
  exact ⟨by rw [← hp.told]; exact db_cell hb (k + 1) 4 (by omega) (by omega), by rw [← hp.hc]; exact db_cell hb (k + 1) 15 (by omega) (by omega), by rw [← hp.hd]; exact db_cell hb (k + 1) 16 (by omega) (by omega)⟩

theorem db_ctc (hb : (docB p h m).At w A) (n : Nat) (hn : n < 17) :
    w.cell? ⟨p, 90 + n * 5, none⟩ = some (m n 5) ∧ w.cell? ⟨p, 90 + n * 5 + 1, none⟩ = some (m n 6) ∧ w.cell? ⟨p, 90 + n * 5 + 2, none⟩ = some (m n 7) ∧ w.cell? ⟨p, 90 + n * 5 + 3, none⟩ = some (m n 8) ∧ w.cell? ⟨p, 90 + n * 5 + 4, none⟩ = some (m n 9) :=
  ⟨db_cell hb n 5 hn (by omega), db_cell hb n 6 hn (by omega), db_cell hb n 7 hn (by omega), db_cell hb n 8 hn (by omega), db_cell hb n 9 hn (by omega)⟩
theorem db_dwc (hb : (docB p h m).At w A) (n : Nat) (hn : n < 17) :
    w.cell? ⟨p, 175 + n * 5, none⟩ = some (m n 10) ∧ w.cell? ⟨p, 175 + n * 5 + 1, none⟩ = some (m n 11) ∧ w.cell? ⟨p, 175 + n * 5 + 2, none⟩ = some (m n 12) ∧ w.cell? ⟨p, 175 + n * 5 + 3, none⟩ = some (m n 13) ∧ w.cell? ⟨p, 175 + n * 5 + 4, none⟩ = some (m n 14) :=
  ⟨db_cell hb n 10 hn (by omega), db_cell hb n 11 hn (by omega), db_cell hb n 12 hn (by omega), db_cell hb n 13 hn (by omega), db_cell hb n 14 hn (by omega)⟩

set_option maxHeartbeats 4000000 in
set_option maxRecDepth 100000 in
theorem ad_adopt (c : Ct) (hw : AtD B w0 W p st (batR c.vb c.rs :: votR c.vv c.vs :: ss)) (n1 : c.rs.length ≤ 100000) (n2 : c.vs.length ≤ 100000) :
    Calls Try.prog 75 #[.pointer (some ⟨p, 0, none⟩), ctAgg c] W fun e w' => e = .returned (.bool (adoptB st c.cp)) ∧ AtD B w0 w' p (adoptI st c.cp) ss := by
  obtain ⟨view, inst, seq, vb, vv, l, vs⟩ := c
  simp only at n1 n2 hw
  have hne : W.heap.size ≠ p := by
    obtain ⟨_, _, h3⟩ := hw
    have := (docB_at h3.head).1
    omega
  have hz := ad_box hw (ctO view inst seq vb vv)
  have HW := Lib.hid (ad_drop (ad_drop (ad_drop hz)))
  obtain ⟨h, m, D, h3, hd⟩ := ad_docI hz
  have hb := h3.head
  obtain ⟨ao, cap, rfl⟩ := bat_form (batR_out h3.drop.drop.drop.head)
  obtain ⟨co, cav, rfl⟩ := vts_form (redR_out h3.drop.drop.drop.drop.head)
  obtain ⟨-, c1, -, -, -, hlt, fz⟩ := db_head hb hd
  obtain ⟨f0, f1, f2, f3, f4, -, -⟩ := ct_cells h3.drop.drop.blk_out
  cases hk : idx seq with
  | none =>
    have HE := Lib.hid (show adoptB st ⟨view, inst, seq, l, vs⟩ = false by simp [adoptB, plAt_none hk])
    have HRG := Lib.hid (fun w => drange_any seq w)
    rw [hk] at HRG
    rw [show (Ct.cp ⟨view, inst, seq, .slice ao l.length cap, .slice co vs.length cav, l, vs⟩) = ⟨view, inst, seq, l, vs⟩ from rfl, HE.out, adopt_off HE.out]
    clear hw hz h3 hd hb hk
    by_cases hin : inst = st.num
    · have hinb : (inst != st.num) = false := by simp [hin]
      clear hin
      go_enter Try.func75, Try.ntmps75
      go_wp2_with fail
      go_quiet ((go_at_call 82; exact quiet_eq (HRG.out _)))
      go_wp2_with fail
      go_ret
      exact ⟨rfl, HW.out.upd0 ((Upd.refl _ _).drewN _)⟩
    · have hinb : (inst != st.num) = true := by simp [hin]
      clear hin
      go_enter Try.func75, Try.ntmps75
      go_wp2_with fail
      go_quiet (fail)
      go_wp2_with fail
      go_ret
      exact ⟨rfl, HW.out.upd0 ((Upd.refl _ _).drewN _)⟩
  | some k =>
    obtain ⟨hkl, hp, hseq⟩ := pl_of hd.n hk
    have HRG := Lib.hid (fun w => drange_any seq w)
    rw [hk] at HRG
    have hk16 : k < 16 := (idx_lt hk).1
    obtain ⟨-, -, s16⟩ := db_more hb hd (k + 1) k rfl hkl
    obtain ⟨s10, s11, s12, s13, s14⟩ := db_dwc hb (k + 1) (by omega)
    have HAB := Lib.hid (show adoptB st ⟨view, inst, seq, l, vs⟩ = (!st.l[k].done && decide (inst = st.num)) by simp only [adoptB, hp])
    have HIQ := Lib.hid (fun hq : adoptB st ⟨view, inst, seq, l, vs⟩ = true => show adoptI st ⟨view, inst, seq, l, vs⟩ = st.upd k fun p => { p with done := true, dw := ⟨view, inst, seq, l, vs⟩ } by simp only [adoptI, hk]; rw [if_pos hq])
    rw [show (Ct.cp ⟨view, inst, seq, .slice ao l.length cap, .slice co vs.length cav, l, vs⟩) = ⟨view, inst, seq, l, vs⟩ from rfl]
    have HQ := Lib.hid (fun N => own_docdw (c := ⟨view, inst, seq, .slice ao l.length cap, .slice co vs.length cav, l, vs⟩) (Own.rot h3 |>.drop.upd0 ((Upd.refl _ _).drewN N)) n1 n2 (k + 1) k rfl hkl (by omega))
    generalize hnn : k + 1 = n at *
    have hn0 : (0 : Int) ≤ (n : Int) := by omega
    have hn17 : (n : Int) < 17 := by omega
    clear hw hz h3 hd hb hk hp
    subst hseq
    by_cases hin : inst = st.num
    · have hinb : (inst != st.num) = false := by simp [hin]
      have hind : decide (inst = st.num) = true := by simp [hin]
      rw [hind, Bool.and_true] at HAB
      clear hin hind
      cases hdn : st.l[k].done with
      | true =>
        rw [hdn] at s16 HAB
        rw [HAB.out, adopt_off HAB.out]
        clear hdn HIQ HQ fz
        go_enter Try.func75, Try.ntmps75
        go_wp2_with fail
        go_quiet ((go_at_call 82; exact quiet_eq (HRG.out _)))
        go_wp2_with fail
        go_ret
        exact ⟨rfl, HW.out.upd0 ((Upd.refl _ _).drewN _)⟩
      | false =>
        rw [hdn] at s16 HAB
        rw [HAB.out, HIQ.out HAB.out]
        clear hdn HIQ
        have z16 := fz (277 + n)
        have z10 := fz (175 + n * 5)
        have z11 := fz (175 + n * 5 + 1)
        have z12 := fz (175 + n * 5 + 2)
        have z13 := fz (175 + n * 5 + 3)
        have z14 := fz (175 + n * 5 + 4)
        clear fz
        go_enter Try.func75, Try.ntmps75
        go_wp2_with fail
        go_quiet ((go_at_call 82; exact quiet_eq (HRG.out _)))
        go_wp2_with fail
        have g0 : ((W.alloc (ctO view inst n (.slice ao l.length cap) (.slice co vs.length cav))).drewN nq).drew.cell? ⟨W.heap.size, 0, none⟩ = some (.int .i64 view) := f0
        have g1 : ((W.alloc (ctO view inst n (.slice ao l.length cap) (.slice co vs.length cav))).drewN nq).drew.cell? ⟨W.heap.size, 1, none⟩ = some (.int .i64 inst) := f1
        have g2 : ((W.alloc (ctO view inst n (.slice ao l.length cap) (.slice co vs.length cav))).drewN nq).drew.cell? ⟨W.heap.size, 2, none⟩ = some (.int .i64 n) := f2
        have g3 : ((W.alloc (ctO view inst n (.slice ao l.length cap) (.slice co vs.length cav))).drewN nq).drew.cell? ⟨W.heap.size, 3, none⟩ = some (.slice ao l.length cap) := f3
        have g4 : ((W.alloc (ctO view inst n (.slice ao l.length cap) (.slice co vs.length cav))).drewN nq).drew.cell? ⟨W.heap.size, 4, none⟩ = some (.slice co vs.length cav) := f4
        have d0 : ((W.alloc (ctO view inst n (.slice ao l.length cap) (.slice co vs.length cav))).drewN (nq + 1)).cell? ⟨W.heap.size, 0, none⟩ = some (.int .i64 view) := f0
        have d1 : ((W.alloc (ctO view inst n (.slice ao l.length cap) (.slice co vs.length cav))).drewN (nq + 1)).cell? ⟨W.heap.size, 1, none⟩ = some (.int .i64 inst) := f1
        have d2 : ((W.alloc (ctO view inst n (.slice ao l.length cap) (.slice co vs.length cav))).drewN (nq + 1)).cell? ⟨W.heap.size, 2, none⟩ = some (.int .i64 n) := f2
        have d3 : ((W.alloc (ctO view inst n (.slice ao l.length cap) (.slice co vs.length cav))).drewN (nq + 1)).cell? ⟨W.heap.size, 3, none⟩ = some (.slice ao l.length cap) := f3
        have d4 : ((W.alloc (ctO view inst n (.slice ao l.length cap) (.slice co vs.length cav))).drewN (nq + 1)).cell? ⟨W.heap.size, 4, none⟩ = some (.slice co vs.length cav) := f4
        go_region_held3 (fun w' => w'.cell? ⟨W.heap.size, 0, none⟩ = some (.int .i64 view) ∧ w'.cell? ⟨W.heap.size, 1, none⟩ = some (.int .i64 inst) ∧ w'.cell? ⟨W.heap.size, 2, none⟩ = some (.int .i64 n) ∧ w'.cell? ⟨W.heap.size, 3, none⟩ = some (.slice ao l.length cap) ∧ w'.cell? ⟨W.heap.size, 4, none⟩ = some (.slice co vs.length cav))
          (first | (with_reducible exact ⟨d0, d1, d2, d3, d4⟩) | (with_reducible exact ⟨g0, g1, g2, g3, g4⟩) | (with_reducible exact k5_sets hne ⟨d0, d1, d2, d3, d4⟩) | (with_reducible exact k5_set hne (k5_sets hne ⟨d0, d1, d2, d3, d4⟩)) | (with_reducible exact k5_sets hne ⟨g0, g1, g2, g3, g4⟩) | (with_reducible exact k5_set hne (k5_sets hne ⟨g0, g1, g2, g3, g4⟩))) (fail)
        go_wp2_with fail
        go_ret
        exact ⟨rfl, HQ.out _⟩
    · have hinb : (inst != st.num) = true := by simp [hin]
      have hind : decide (inst = st.num) = false := by simp [hin]
      rw [hind, Bool.and_false] at HAB
      rw [HAB.out, adopt_off HAB.out]
      clear hin hind HIQ HQ fz
      go_enter Try.func75, Try.ntmps75
      go_wp2_with fail
      go_quiet (fail)
      go_wp2_with fail
      go_ret
      exact ⟨rfl, HW.out.upd0 ((Upd.refl _ _).drewN _)⟩

end
end Go.Proofs.Ytdeadekeffficaa

/- The document's instance: Leave, Install. -/
namespace Go.Proofs.Ytdeadekeffficaa
open Go.RowKit Go.Heap

/-- The first k rows are those of empty slots. -/
def zeroQ (q : Nat) : Value := if q = 0 then .bool false else if q = 4 then .bool false else .slice none 0 0
def lvM (m : Nat → Nat → Value) (k : Nat) : Nat → Nat → Value := fun j q => if j < k ∧ q < 5 then zeroQ q else m j q

theorem lvM_zero (m : Nat → Nat → Value) : lvM m 0 = m := by funext j q; simp [lvM]
theorem lvM_step (m : Nat → Nat → Value) (k : Nat) : setM (setM (setM (setM (setM (lvM m k) k 0 (.bool false)) k 1 (.slice none 0 0)) k 2 (.slice none 0 0)) k 3 (.slice none 0 0)) k 4 (.bool false) = lvM m (k + 1) := by
  funext j q
  by_cases hj : j = k
  · subst hj
    by_cases hq : q < 5
    · have h1 : lvM m (j + 1) j q = zeroQ q := by simp [lvM, hq]
      rw [h1]
      have : q = 0 ∨ q = 1 ∨ q = 2 ∨ q = 3 ∨ q = 4 := by omega
      rcases this with rfl | rfl | rfl | rfl | rfl <;> simp [setM, zeroQ]
    · have h1 : lvM m (j + 1) j q = m j q := by simp [lvM]; omega
      have h2 : lvM m j j q = m j q := by simp [lvM]
      rw [h1, setM_col (by omega), setM_col (by omega), setM_col (by omega), setM_col (by omega), setM_col (by omega), h2]
  · rw [setM_row hj, setM_row hj, setM_row hj, setM_row hj, setM_row hj]
    by_cases hj2 : j < k
    · simp [lvM, hj2, Nat.lt_succ_of_lt hj2]
    · have : ¬ j < k + 1 := by omega
      simp [lvM, hj2, this]

section
variable {B : Nat} {w0 w W W' : World} {ss rs : List Res} {p : Nat} {st : In} {h h' : Nat → Value} {m m' : Nat → Nat → Value} {D D' : List Nat} {A : List Nat}

theorem docB_lv {k : Nat} (hw : Own B w0 W (docB p h (lvM m k) :: rs)) (hk : k < 17) :
    Own B w0 (((((W.setCell ⟨p, 5 + k * 4, none⟩ (.bool false)).setCell ⟨p, 5 + k * 4 + 1, none⟩ (.slice none 0 0)).setCell ⟨p, 5 + k * 4 + 2, none⟩ (.slice none 0 0)).setCell ⟨p, 5 + k * 4 + 3, none⟩ (.slice none 0 0)).setCell ⟨p, 73 + k, none⟩ (.bool false))
      (docB p h (lvM m (k + 1)) :: rs) := by
  rw [← lvM_step]
  exact docB_put (docB_put (docB_put (docB_put (docB_put hw k 0 hk (by omega) _) k 1 hk (by omega) _) k 2 hk (by omega) _) k 3 hk (by omega) _) k 4 hk (by omega) _

theorem docIn_empty (f : Nat) : DocIn w (.slice none 0 0) (.slice none 0 0) (.slice none 0 0) (emptySl f) D :=
  ⟨ReadsIn.nil _ _ _, ⟨[], ⟨ReadsIn.nil _ _ _, by simp⟩, by simp [emptySl, refs_none]⟩, ⟨[], ⟨ReadsIn.nil _ _ _, by simp⟩, by simp [emptySl, refs_none]⟩⟩

theorem DocI.leave (hd : DocI w h m st D) {v : Int} (hv : leaveB st v = true) : DocI w (setH (setH h 3 (.int .i64 v)) 4 (.bool false)) (lvM m 17) (leaveI st v) D := by
  have hl : leaveI st v = { st with view := v, on := false, l := st.l.map fun p => { p with sl := emptySl st.f, told := false } } := by unfold leaveI; rw [if_pos hv]
  rw [hl]
  simp only [leaveB, Bool.and_eq_true, decide_eq_true_eq] at hv
  have hvw := hd.vw
  exact {
    n := by simp [hd.n]
    f1 := hd.f1
    f2 := hd.f2
    h0 := by rw [setH_ne (by omega), setH_ne (by omega)]; exact hd.h0
    h1 := by rw [setH_ne (by omega), setH_ne (by omega)]; exact hd.h1
    h2 := by rw [setH_ne (by omega), setH_ne (by omega)]; exact hd.h2
    h3 := by rw [setH_ne (by omega), setH_same]
    h4 := by rw [setH_same]
    a1 := hd.a1
    a2 := hd.a2
    vw := ⟨by show 0 ≤ v; omega, hv.2⟩
    off := fun _ p hp => by
      obtain ⟨q, _, rfl⟩ := List.mem_map.1 hp
      rfl
    z := fun q => by
      unfold lvM
      split
      · unfold zeroQ; split
        · rfl
        · split <;> rfl
      · exact hd.z q
    pl := fun k hk => by
      have hk' : k < st.l.length := by simpa using hk
      have hk17 : k + 1 < 17 := by have := hd.n; omega
      have hp := hd.pl k hk'
      have hz : ∀ q, q < 5 → lvM m 17 (k + 1) q = zeroQ q := fun q hq => by simp [lvM, hq]; omega
      have hm : ∀ q, 5 ≤ q → lvM m 17 (k + 1) q = m (k + 1) q := fun q hq => by simp [lvM]; omega
      simp only [List.getElem_map]
      exact {
        has := by rw [hz 0 (by omega)]; rfl
        dc := by rw [hz 1 (by omega), hz 2 (by omega), hz 3 (by omega)]; exact docIn_empty _
        told := by rw [hz 4 (by omega)]; rfl
        ct := hp.ct.congr (fun i h1 _ => hm i (by omega))
        dw := hp.dw.congr (fun i h1 _ => hm i (by omega))
        hc := by rw [hm 15 (by omega)]; exact hp.hc
        hd := by rw [hm 16 (by omega)]; exact hp.hd
        n := by simp [chosenS, emptySl]
        pl := by simp [emptySl]
        cl := by simp [emptySl] } }

theorem leave_no {v : Int} (h : leaveB st v = false) : leaveI st v = st := by unfold leaveI; rw [if_neg (by simp [h])]

set_option maxHeartbeats 2000000 in
set_option maxRecDepth 100000 in
theorem ad_leave (hw : AtD B w0 W p st ss) (v : Int) :
    Calls Try.prog 76 #[.pointer (some ⟨p, 0, none⟩), .int .i64 v] W fun e w' => e = .returned (.bool (leaveB st v)) ∧ AtD B w0 w' p (leaveI st v) ss := by
  obtain ⟨h, m, D, h3, hd⟩ := ad_docI hw
  have hb := h3.head
  obtain ⟨-, -, -, c3, c4, hlt, fz⟩ := db_head hb hd
  have HW := Lib.hid hw
  by_cases h1 : st.view < v
  · have hb1 : decide (v ≤ st.view) = false := by simp; omega
    by_cases h2 : v ≤ 12
    · have hb2 : decide (12 < v) = false := by simp; omega
      have HB := Lib.hid (show leaveB st v = true by simp [leaveB, h1, h2])
      have z3 := fz 3
      have z4 := fz 4
      have H3 := Lib.hid h3
      clear hw h3 hd hb h1 h2 fz
      go_enter Try.func76, Try.ntmps76
      go_wp2_with fail
      have H4 : Hid (Own B w0 ((W.setCell ⟨p, 3, none⟩ (.int .i64 v)).setCell ⟨p, 4, none⟩ (.bool false)) (docB p (setH (setH h 3 (.int .i64 v)) 4 (.bool false)) (lvM m 0) :: docI h m st :: ss)) := Lib.hid (by rw [lvM_zero]; exact docB_puth (docB_puth H3.out 3 (by omega) _) 4 (by omega) _)
      generalize (W.setCell ⟨p, 3, none⟩ (.int .i64 v)).setCell ⟨p, 4, none⟩ (.bool false) = w1 at *
      clear c3 c4 z3 z4 H3 hlt
      go_loopw [5] (fun i wr => ∃ k : Nat, k ≤ 17 ∧ i = .int .i64 k ∧ Hid (Own B w0 wr (docB p (setH (setH h 3 (.int .i64 v)) 4 (.bool false)) (lvM m k) :: docI h m st :: ss))) (fun i _ => 17 - (intOf i).toNat)
      case atStart => exact ⟨0, by omega, rfl, H4⟩
      case round =>
        clear H4
        obtain ⟨k, hk, rfl, H4⟩ := hrel
        by_cases hlt17 : k < 17
        · have hkI : (k : Int) ≤ 16 := by omega
          have hkI2 : (k : Int) < 17 := by omega
          have h4 := H4.out
          obtain ⟨hlt, -, -, fz⟩ := docB_at h4.head
          have s0 := db_cell h4.head k 0 (by omega) (by omega)
          have s1 := db_cell h4.head k 1 (by omega) (by omega)
          have s2 := db_cell h4.head k 2 (by omega) (by omega)
          have s3 := db_cell h4.head k 3 (by omega) (by omega)
          have s4 := db_cell h4.head k 4 (by omega) (by omega)
          have s0 : wr.cell? ⟨p, 5 + k * 4, none⟩ = some (lvM m k k 0) := s0
          have s1 : wr.cell? ⟨p, 5 + k * 4 + 1, none⟩ = some (lvM m k k 1) := s1
          have s2 : wr.cell? ⟨p, 5 + k * 4 + 2, none⟩ = some (lvM m k k 2) := s2
          have s3 : wr.cell? ⟨p, 5 + k * 4 + 3, none⟩ = some (lvM m k k 3) := s3
          have s4 : wr.cell? ⟨p, 73 + k, none⟩ = some (lvM m k k 4) := s4
          have z0 := fz (5 + k * 4)
          have z1 := fz (5 + k * 4 + 1)
          have z2 := fz (5 + k * 4 + 2)
          have z3 := fz (5 + k * 4 + 3)
          have z4 := fz (73 + k)
          clear h4 fz
          go_wp2_with fail
          refine Mix.wp_text2 (by kernel_rfl) (by kernel_rfl) ?_
          go_wp2_with fail
          refine ⟨by rfl, ?_⟩
          have H5 := Lib.hid (docB_lv H4.out.drew hlt17)
          go_wp2_with fail
          go_roundw
          case rel => exact ⟨k + 1, by omega, by go_num, H5⟩
          case measure => simp [intOf]; omega
        · have hk17 : k = 17 := by omega
          subst hk17
          have hkI : decide ((17 : Int) ≤ 16) = false := by decide
          go_wp2_with fail
          go_ret
          rw [HB.out]
          refine ⟨rfl, _, _, Own.swap (own_tell H4.out.swap fun D hd => DocI.leave hd HB.out)⟩
    · have hb2 : decide (12 < v) = true := by simp; omega
      have HB := Lib.hid (show leaveB st v = false by simp [leaveB, h2])
      clear hw h3 hd hb h1 h2 fz
      go_enter Try.func76, Try.ntmps76
      go_wp2_with fail
      go_ret
      rw [HB.out, leave_no HB.out]
      exact ⟨rfl, HW.out⟩
  · have hb1 : decide (v ≤ st.view) = true := by simp; omega
    have HB := Lib.hid (show leaveB st v = false by simp [leaveB, h1])
    clear hw h3 hd hb h1 fz
    go_enter Try.func76, Try.ntmps76
    go_wp2_with fail
    go_ret
    rw [HB.out, leave_no HB.out]
    exact ⟨rfl, HW.out⟩

end
end Go.Proofs.Ytdeadekeffficaa

/- The document's instance: Install. -/
namespace Go.Proofs.Ytdeadekeffficaa
open Go.RowKit Go.Heap

def inM (m : Nat → Nat → Value) (vals : List Value) (k : Nat) : Nat → Nat → Value := fun j q => if 1 ≤ j ∧ j ≤ k ∧ q < 2 then (if q = 0 then .bool true else (vals[j - 1]?).getD (.bool false)) else m j q

theorem inM_zero (m : Nat → Nat → Value) (vals : List Value) : inM m vals 0 = m := by
  funext j q
  have : ¬ (1 ≤ j ∧ j ≤ 0 ∧ q < 2) := by omega
  simp only [inM, if_neg this]
theorem inM_step (m : Nat → Nat → Value) (vals : List Value) (k : Nat) (u : Value) (hu : vals[k]? = some u) : setM (setM (inM m vals k) (k + 1) 0 (.bool true)) (k + 1) 1 u = inM m vals (k + 1) := by
  funext j q
  by_cases hj : j = k + 1
  · subst hj
    by_cases hq : q < 2
    · have h1 : inM m vals (k + 1) (k + 1) q = if q = 0 then .bool true else (vals[k]?).getD (.bool false) := by simp [inM, hq]
      rw [h1, hu]
      have : q = 0 ∨ q = 1 := by omega
      rcases this with rfl | rfl <;> simp [setM]
    · have h1 : inM m vals (k + 1) (k + 1) q = m (k + 1) q := by simp [inM, hq]
      have h2 : inM m vals k (k + 1) q = m (k + 1) q := by simp [inM, hq]
      rw [h1, setM_col (by omega), setM_col (by omega), h2]
  · rw [setM_row hj, setM_row hj]
    have : (1 ≤ j ∧ j ≤ k + 1 ∧ q < 2) ↔ (1 ≤ j ∧ j ≤ k ∧ q < 2) := by omega
    simp only [inM, this]

theorem preAll_get : ∀ (bs : List (List Rq)) (ps : List Pl) (k : Nat) (hk : k < (preAll bs ps).length), ∃ hk' : k < ps.length, (preAll bs ps)[k] = if hb : k < bs.length then { ps[k] with sl := slPre bs[k] ps[k].sl } else ps[k]
  | [], ps, k, hk => by
    have e : preAll [] ps = ps := by simp [preAll]
    refine ⟨by rw [e] at hk; exact hk, ?_⟩
    rw [dif_neg (by simp)]
    exact List.getElem_of_eq e hk
  | _ :: _, [], k, hk => by simp [preAll] at hk
  | b :: bs, p :: ps, 0, hk => ⟨by simp, by simp [preAll]⟩
  | b :: bs, p :: ps, k + 1, hk => by
    obtain ⟨h1, h2⟩ := preAll_get bs ps k (by simpa [preAll] using hk)
    refine ⟨by simpa using h1, ?_⟩
    simp only [preAll, List.getElem_cons_succ, h2, List.length_cons, Nat.add_lt_add_iff_right]

section
variable {B : Nat} {w0 w W W' : World} {ss rs : List Res} {p : Nat} {st : In} {h h' : Nat → Value} {m m' : Nat → Nat → Value} {D D' : List Nat} {A : List Nat}

theorem docB_in {vals : List Value} {k : Nat} {u : Value} (hw : Own B w0 W (docB p h (inM m vals k) :: rs)) (hk : k < 16) (hu : vals[k]? = some u) :
    Own B w0 ((W.setCell ⟨p, 5 + (k + 1) * 4, none⟩ (.bool true)).setCell ⟨p, 5 + (k + 1) * 4 + 1, none⟩ u) (docB p h (inM m vals (k + 1)) :: rs) := by
  rw [← inM_step m vals k u hu]
  exact docB_put (docB_put hw (k + 1) 0 (by omega) (by omega) _) (k + 1) 1 (by omega) (by omega) _

/-- The document's instance and batches that are told by their values. -/
def DocBs (w : World) (h : Nat → Value) (m : Nat → Nat → Value) (st : In) (v : Value) (vals : List Value) (bs : List (List Rq)) (D : List Nat) : Prop :=
  DocI w h m st D ∧ ReadsIn w v 1 bs.length vals D ∧ ∀ k (hk : k < bs.length), ∃ u, vals[k]? = some u ∧ BatIn w u bs[k] D
theorem DocBs.dep {w w' : World} {v : Value} {vals : List Value} {bs : List (List Rq)} (hd : DocBs w h m st v vals bs D) (hk : ∀ k ∈ D, w'.heap[k]? = w.heap[k]?) (hs : w.heap.size ≤ w'.heap.size) : DocBs w' h m st v vals bs D :=
  ⟨hd.1.dep hk hs, hd.2.1.dep hk hs, fun k hkl => let ⟨u, e, hb⟩ := hd.2.2 k hkl; ⟨u, e, hb.dep hk hs⟩⟩
def docBs (h : Nat → Value) (m : Nat → Nat → Value) (st : In) (v : Value) (vals : List Value) (bs : List (List Rq)) : Res := imm (fun w D => DocBs w h m st v vals bs D) (fun hd hk hs => hd.dep hk hs)

theorem own_docbs {v : Value} {bs : List (List Rq)} (hw : Own B w0 W (docB p h m :: docI h m st :: bsR v bs :: ss)) : ∃ vals, Own B w0 W (docB p h m :: docBs h m st v vals bs :: ss) := by
  obtain ⟨D1, ⟨⟨vals, b1, b2⟩, b3⟩, b4, b5⟩ := (hw.all (bsR v bs) (by simp)).1
  have h1 : Own B w0 W (bsR v bs :: docB p h m :: docI h m st :: ss) := hw.rot
  have h2 := h1.alter (r' := imm (fun w D => ReadsIn w v 1 bs.length vals D ∧ ∀ k (hk : k < bs.length), ∃ u, vals[k]? = some u ∧ BatIn w u bs[k] D) (fun ⟨a, b⟩ hk hs => ⟨a.dep hk hs, fun k hkl => let ⟨u, e, hb⟩ := b k hkl; ⟨u, e, hb.dep hk hs⟩⟩)) ⟨D1, ⟨⟨b1, b2⟩, b3⟩, fun k hk hn => b4 k hk (by
      rcases (Ms_cons _ _ _).1 hn with hn | hn
      · simp [bsR, imm] at hn
      · rcases (Ms_cons _ _ _).1 hn with hn | hn
        · exact (Ms_cons _ _ _).2 (.inl hn)
        · rcases (Ms_cons _ _ _).1 hn with hn | hn
          · exact (Ms_cons _ _ _).2 (.inr ((Ms_cons _ _ _).2 (.inl hn)))
          · exact (Ms_cons _ _ _).2 (.inr ((Ms_cons _ _ _).2 (.inr ((Ms_cons _ _ _).2 (.inr hn)))))), fun k hk => h1.lt k hk⟩ (fun _ hk => hk)
  refine ⟨vals, Own.swap (own_join h2.rot ?_)⟩
  rintro D D1 hd ⟨hr, hb⟩
  exact ⟨{ hd with pl := fun k hk => (hd.pl k hk).mono (by simp +contextual) }, hr.mono (by simp +contextual), fun k hk => let ⟨u, e, hb⟩ := hb k hk; ⟨u, e, ReadsIn.mono hb (by simp +contextual)⟩⟩

theorem docBs_at {v : Value} {vals : List Value} {bs : List (List Rq)} (hr : (docBs h m st v vals bs).At w A) : DocI w h m st (Classical.choose hr) ∧ ∃ ao cap, v = .slice ao bs.length cap ∧ ∀ k (hk : k < bs.length), ∃ b o u, ao = some ⟨b, o, none⟩ ∧ b < w.heap.size ∧ w.cell? ⟨b, o + k, none⟩ = some u ∧ vals[k]? = some u ∧ Bat w u bs[k] := by
  obtain ⟨⟨⟨h1, h2, h3⟩, _⟩, _⟩ := Classical.choose_spec hr
  refine ⟨h1, ?_⟩
  obtain ⟨ao, cap, e, -, -, -, -, h5⟩ := h2.1
  refine ⟨ao, cap, e, fun k hk => ?_⟩
  obtain ⟨b, o, rfl, hb, hc⟩ := h5 (by omega)
  obtain ⟨u, e, hu⟩ := h3 k hk
  exact ⟨b, o, u, rfl, hb, by rw [hc k (by omega), e], e, hu.1⟩

theorem DocBs.install {v : Value} {vals : List Value} {bs : List (List Rq)} (hd : DocBs w h m st v vals bs D) (hon : st.on = false) (hbn : ∀ b ∈ bs, b.length ≤ 100000) :
    DocI w (setH h 4 (.bool true)) (inM m vals bs.length) { st with on := true, l := preAll bs st.l } D := by
  obtain ⟨hd, -, hb⟩ := hd
  exact {
    n := by rw [preAll_len]; exact hd.n
    f1 := hd.f1
    f2 := hd.f2
    h0 := by rw [setH_ne (by omega)]; exact hd.h0
    h1 := by rw [setH_ne (by omega)]; exact hd.h1
    h2 := by rw [setH_ne (by omega)]; exact hd.h2
    h3 := by rw [setH_ne (by omega)]; exact hd.h3
    h4 := by rw [setH_same]
    a1 := hd.a1
    a2 := hd.a2
    vw := hd.vw
    off := fun e => by cases e
    z := fun q => by
      have : ¬ (1 ≤ 0 ∧ 0 ≤ bs.length ∧ q < 2) := by omega
      simp only [inM, if_neg this]
      exact hd.z q
    pl := fun k hk => by
      obtain ⟨hk', e⟩ := preAll_get bs st.l k hk
      have hp := hd.pl k hk'
      have he := hd.off hon _ (List.getElem_mem hk')
      show DPl w st.f (inM m vals bs.length (k + 1)) (preAll bs st.l)[k] D
      rw [e]
      split
      · next hb2 =>
        obtain ⟨u, e1, e2⟩ := hb k hb2
        have h0 : inM m vals bs.length (k + 1) 0 = .bool true := by simp [inM]; omega
        have h1 : inM m vals bs.length (k + 1) 1 = u := by
          have : 1 ≤ k + 1 ∧ k + 1 ≤ bs.length ∧ (1 : Nat) < 2 := by omega
          simp only [inM, if_pos this]
          simp [e1]
        have h2 : ∀ i, 1 < i → inM m vals bs.length (k + 1) i = m (k + 1) i := fun i hi => by
          have : ¬ (1 ≤ k + 1 ∧ k + 1 ≤ bs.length ∧ i < 2) := by omega
          simp only [inM, if_neg this]
        have hh : st.l[k].sl.has = false := by rw [he]; rfl
        exact (DPl.pre hp e2 (hbn _ (List.getElem_mem hb2)) hh h0 h1 h2).mono (by simp)
      · next hb2 =>
        have h2 : ∀ i, inM m vals bs.length (k + 1) i = m (k + 1) i := fun i => by
          have : ¬ (1 ≤ k + 1 ∧ k + 1 ≤ bs.length ∧ i < 2) := by omega
          simp only [inM, if_neg this]
        exact hp.congr (fun i _ => h2 i) }

theorem install_no {bs : List (List Rq)} (h : instB st bs.length = false) : installI st bs = st := by unfold installI; rw [if_neg (by simp [h])]
theorem install_yes {bs : List (List Rq)} (h : instB st bs.length = true) : installI st bs = { st with on := true, l := preAll bs st.l } := by unfold installI; rw [if_pos h]

set_option maxHeartbeats 2000000 in
set_option maxRecDepth 100000 in
theorem ad_install {v : Value} {bs : List (List Rq)} (hw : AtD B w0 W p st (bsR v bs :: ss)) (hbn : ∀ b ∈ bs, b.length ≤ 100000) :
    Calls Try.prog 77 #[.pointer (some ⟨p, 0, none⟩), v] W fun e w' => e = .returned (.bool (instB st bs.length)) ∧ AtD B w0 w' p (installI st bs) ss := by
  have HW := Lib.hid (ad_drop hw)
  obtain ⟨h, m, D, h3, hd⟩ := ad_docI hw
  have hb := h3.head
  obtain ⟨ao, cap, rfl⟩ := bs_form h3.drop.drop.head
  obtain ⟨-, -, -, -, c4, hlt, fz⟩ := db_head hb hd
  cases hon : st.on with
  | true =>
    rw [hon] at c4
    have HB := Lib.hid (show instB st bs.length = false by simp [instB, hon])
    rw [HB.out, install_no HB.out]
    clear hw h3 hd hb hon fz
    go_enter Try.func77, Try.ntmps77
    go_wp2_with fail
    go_ret
    exact ⟨rfl, HW.out⟩
  | false =>
    rw [hon] at c4
    by_cases hl : bs.length ≤ 16
    · have hlb : decide ((16 : Int) < (bs.length : Int)) = false := by simp; omega
      have HB := Lib.hid (show instB st bs.length = true by simp [instB, hon, hl])
      rw [HB.out, install_yes HB.out]
      have z4 := fz 4
      obtain ⟨vals, h4⟩ := own_docbs h3
      have H4 : Hid (Own B w0 (W.setCell ⟨p, 4, none⟩ (.bool true)) (docB p (setH h 4 (.bool true)) (inM m vals 0) :: docBs h m st (.slice ao bs.length cap) vals bs :: ss)) := Lib.hid (by rw [inM_zero]; exact docB_puth h4 4 (by omega) _)
      have HON := Lib.hid hon
      have HBN := Lib.hid hbn
      clear hw h3 hd hb hon fz h4 hbn
      go_enter Try.func77, Try.ntmps77
      go_wp2_with fail
      generalize W.setCell ⟨p, 4, none⟩ (.bool true) = w1 at *
      clear c4 z4 hlt hlb
      go_loopw [5] (fun i wr => ∃ k : Nat, k ≤ bs.length ∧ i = .int .i64 k ∧ Hid (Own B w0 wr (docB p (setH h 4 (.bool true)) (inM m vals k) :: docBs h m st (.slice ao bs.length cap) vals bs :: ss))) (fun i _ => bs.length - (intOf i).toNat)
      case atStart => exact ⟨0, by omega, rfl, H4⟩
      case round =>
        clear H4
        obtain ⟨k, hk, rfl, H4⟩ := hrel
        by_cases hltk : k < bs.length
        · have hkI : (k : Int) < (bs.length : Int) := by omega
          have hk16 : (k : Int) < 16 := by omega
          have h4 := H4.out
          obtain ⟨-, ao', cap', e, hbs⟩ := docBs_at h4.drop.head
          simp only [Value.slice.injEq, true_and] at e
          obtain ⟨rfl, rfl⟩ := e
          obtain ⟨b, o, u, rfl, hlb, cu, hvu, hbat⟩ := hbs k hltk
          obtain ⟨ub, ucap, rfl⟩ := bat_form hbat
          obtain ⟨hlt, -, -, fz⟩ := docB_at h4.head
          have s0 := db_cell h4.head (k + 1) 0 (by omega) (by omega)
          have s1 := db_cell h4.head (k + 1) 1 (by omega) (by omega)
          have s0 : wr.cell? ⟨p, 5 + (k + 1) * 4, none⟩ = some (inM m vals k (k + 1) 0) := s0
          have s1 : wr.cell? ⟨p, 5 + (k + 1) * 4 + 1, none⟩ = some (inM m vals k (k + 1) 1) := s1
          have z0 := fz (5 + (k + 1) * 4)
          have z1 := fz (5 + (k + 1) * 4 + 1)
          have H5 := Lib.hid (docB_in h4.drew (by omega) hvu)
          clear h4 fz hbs hvu hbat
          go_wp2_with fail
          refine Mix.wp_text2 (by kernel_rfl) (by kernel_rfl) ?_
          go_wp2_with fail
          refine ⟨by rfl, ?_⟩
          go_wp2_with fail
          go_roundw
          case rel => exact ⟨k + 1, by omega, by go_num, H5⟩
          case measure => simp [intOf]; omega
        · have hke : k = bs.length := by omega
          have hkI : decide ((k : Int) < (bs.length : Int)) = false := by simp; omega
          have H5 := H4.out
          rw [hke] at H5
          have H5 := Lib.hid H5
          clear hke H4
          go_wp2_with fail
          go_ret
          refine ⟨rfl, _, _, Own.swap (own_tell H5.out.swap fun D hd => DocBs.install hd HON.out HBN.out)⟩
    · have hlb : decide ((16 : Int) < (bs.length : Int)) = true := by simp; omega
      have HB := Lib.hid (show instB st bs.length = false by simp [instB, hon, hl])
      rw [HB.out, install_no HB.out]
      clear hw h3 hd hb hon fz
      go_enter Try.func77, Try.ntmps77
      go_wp2_with fail
      go_ret
      exact ⟨rfl, HW.out⟩

end
end Go.Proofs.Ytdeadekeffficaa
