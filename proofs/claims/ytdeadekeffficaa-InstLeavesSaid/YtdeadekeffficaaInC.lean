/- inst: Chosen, Vote, Pre. -/
import Derived.Test.YtdeadekeffficaaInB
namespace Go.Proofs.Ytdeadekeffficaa
open Go.RowKit Go.Heap

section
variable {B : Nat} {w0 W W' : World} {ss : List Res} {x : Ins}

theorem plAt_some {seq : Int} {k : Nat} (h : InsOk x) (hk : idx seq = some k) : ∃ hk' : k < x.l.length, plAt x.st seq = some x.l[k].pl := by
  have hk' : k < x.l.length := by rw [h.n]; exact (idx_lt hk).1
  exact ⟨hk', by simp [plAt, hk, Ins.st, hk']⟩
theorem plAt_none {seq : Int} {st : In} (hk : idx seq = none) : plAt st seq = none := by simp [plAt, hk]

abbrev Ins.sl (x : Ins) (k : Nat) (p : Pm) : Ins := { x with l := x.l.set k p }
theorem st_set (x : Ins) (k : Nat) (hk : k < x.l.length) (p : Pm) (g : Pl → Pl) (hp : p.pl = g x.l[k].pl) : (x.sl k p).st = x.st.upd k g := by
  simp only [Ins.st, In.upd, In.mk.injEq, true_and]
  apply List.ext_getElem?
  intro j
  rw [List.map_set, List.getElem?_modify, List.getElem?_set]
  by_cases e : k = j
  · subst e
    simp [hk, hp]
  · simp [e]

def ChosenP (W : World) (r : List Rq × Bool) (e : Ending) (w' : World) : Prop := ∃ u, e = .returned (.tuple #[u, .bool r.2]) ∧ Upd [] W w' ∧ Bat w' u r.1 ∧ ∀ k ∈ blkOf u, W.heap.size ≤ k

set_option maxHeartbeats 400000 in
theorem ins_chosen (h : Own B w0 W (instR x :: ss)) {i : Nat} (hi : x.i = i) (seq : Int) : Calls Try.prog 81 #[.pointer (some ⟨i, 0, none⟩), .int .i64 seq] W (ChosenP W (chosenI x.st seq)) := by
  subst hi
  have ho := own_open h
  obtain ⟨-, -, -, -, -, c5, l1, l2⟩ := oi_cells ho
  cases hk : idx seq with
  | none =>
    have hs := idx_none hk
    have HE := Lib.hid (show chosenI x.st seq = ([], false) by simp [chosenI, plAt_none hk])
    have HA := Lib.hid (at_no x.i x.b x.cap seq W hs c5)
    clear ho h hk hs c5
    go_enter Try.func81, Try.ntmps81
    go_wp2_with fail
    refine HA.out.mono ?_
    rintro e w' ⟨rfl, rfl⟩
    go_wp2_with fail
    go_ret2
    rw [HE.out]
    exact ⟨.slice none 0 0, rfl, Upd.refl _ _, Reads.nil _ _, by simp [blkOf]⟩
  | some k =>
    obtain ⟨hl, hp⟩ := plAt_some (oi_ok ho) hk
    have HE := Lib.hid (show chosenI x.st seq = (chosenS x.l[k].sl, x.l[k].sl.has) by simp [chosenI, hp, Pm.pl])
    obtain ⟨i1, i2⟩ := idx_lt hk
    have HA := Lib.hid (at_yes x.i x.b x.cap seq W (by omega) (by omega) c5)
    have hks : seq.toNat - 1 = k := by omega
    rw [hks] at HA
    have cp := oi_ptr ho k hl
    have HC := Lib.hid (own_chosen (oi_pick ho k hl))
    clear ho h hk c5 hp i2 hks
    go_enter Try.func81, Try.ntmps81
    go_wp2_with fail
    refine HA.out.mono ?_
    rintro e w' ⟨rfl, rfl⟩
    go_wp2_with fail
    refine HC.out.mono ?_
    rintro e w' ⟨u, rfl, hu, hb, hn⟩
    have HU := Lib.hid hu
    have HB := Lib.hid hb
    have HN := Lib.hid hn
    clear hu hb hn
    go_wp2_with fail
    go_ret2
    rw [HE.out]
    exact ⟨u, rfl, HU.out, HB.out, HN.out⟩

/-- What a call leaves: an instance that is so. -/
def InsP (B : Nat) (w0 _W : World) (i : Nat) (st : In) (ss : List Res) (r : Value) (e : Ending) (w' : World) : Prop := e = .returned r ∧ ∃ x' : Ins, x'.i = i ∧ x'.st = st ∧ Own B w0 w' (instR x' :: ss)

theorem insP_same (h : Own B w0 W (instR x :: ss)) {st : In} (hst : st = x.st) {r : Value} : InsP B w0 W x.i st ss r (.returned r) W := ⟨rfl, x, rfl, hst.symm, h⟩

theorem vote_off {seq : Int} {st : In} (hk : idx seq = none) (kind node sl : Int) (l : List Rq) : voteB st kind seq node = false ∧ voteI st kind seq node sl l = st := by
  simp [voteB, voteI, plAt_none hk, hk]

set_option maxHeartbeats 400000 in
theorem ins_vote (h : Own B w0 W (instR x :: ss)) {i : Nat} (hi : x.i = i) (kind seq node sl : Int) (v : Value) (l : List Rq) (hb : Bat W v l) (hn : l.length ≤ 100000) :
    Calls Try.prog 35 #[.pointer (some ⟨i, 0, none⟩), .int .i64 kind, .int .i64 seq, .int .i64 node, .int .i64 sl, v] W (InsP B w0 W i (voteI x.st kind seq node sl l) ss (.bool (voteB x.st kind seq node))) := by
  subst hi
  have ho := own_open h
  obtain ⟨-, -, -, -, c4, c5, l1, l2⟩ := oi_cells ho
  cases hk : idx seq with
  | none =>
    have hs := idx_none hk
    have HE := Lib.hid (vote_off (st := x.st) hk kind node sl l)
    have HA := Lib.hid (at_no x.i x.b x.cap seq W hs c5)
    have H := Lib.hid h
    clear ho h hk hs c4 c5 hb
    go_enter Try.func35, Try.ntmps35
    go_wp2_with fail
    refine HA.out.mono ?_
    rintro e w' ⟨rfl, rfl⟩
    go_wp2_with fail
    go_ret
    rw [HE.out.1]
    exact insP_same H.out HE.out.2
  | some k =>
    obtain ⟨hl, hp⟩ := plAt_some (oi_ok ho) hk
    obtain ⟨i1, i2⟩ := idx_lt hk
    have HA := Lib.hid (at_yes x.i x.b x.cap seq W (by omega) (by omega) c5)
    have hks : seq.toNat - 1 = k := by omega
    rw [hks] at HA
    have cp := oi_ptr ho k hl
    by_cases hon : x.on = true
    · rw [hon] at c4
      have HB := Lib.hid (show voteB x.st kind seq node = canVote x.l[k].sl kind node by simp only [voteB, hp, Pm.pl]; simp [Ins.st, hon])
      have HI := Lib.hid (show voteI x.st kind seq node sl l = x.st.upd k fun p => { p with sl := voteS p.sl kind node sl l } by simp only [voteI, hk]; simp [Ins.st, hon])
      have HC := Lib.hid (own_vote (oi_pick ho k hl) kind node sl v l hb hn)
      clear ho h hk c5 hp i2 hks hon hb
      go_enter Try.func35, Try.ntmps35
      go_wp2_with fail
      refine HA.out.mono ?_
      rintro e w' ⟨rfl, rfl⟩
      go_wp2_with fail
      refine HC.out.mono ?_
      rintro e w' ⟨rfl, -, h2⟩
      have H2 := Lib.hid h2
      clear h2
      go_wp2_with fail
      go_ret
      rw [HB.out, HI.out]
      exact ⟨rfl, x.sl k { x.l[k] with sl := voteS x.l[k].sl kind node sl l }, rfl, st_set x k hl _ _ rfl, own_shut (oi_unpick k hl _ H2.out rfl ⟨rfl, rfl⟩ rfl)⟩
    · have hon' : x.on = false := by simpa using hon
      rw [hon'] at c4
      have HB := Lib.hid (show voteB x.st kind seq node = false by simp only [voteB, hp]; simp [Ins.st, hon'])
      have HI := Lib.hid (show voteI x.st kind seq node sl l = x.st by simp only [voteI, hk]; simp [Ins.st, hon'])
      have H := Lib.hid h
      clear ho h hk c5 hp i2 hks hon hb hon'
      go_enter Try.func35, Try.ntmps35
      go_wp2_with fail
      refine HA.out.mono ?_
      rintro e w' ⟨rfl, rfl⟩
      go_wp2_with fail
      go_ret
      rw [HB.out]
      exact insP_same H.out HI.out

end
end Go.Proofs.Ytdeadekeffficaa
