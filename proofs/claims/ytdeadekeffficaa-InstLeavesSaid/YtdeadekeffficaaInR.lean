/- A slice of batches, only read; plain: preAll batch by batch. -/
import Derived.Test.YtdeadekeffficaaInQ
namespace Go.Proofs.Ytdeadekeffficaa
open Go.RowKit Go.Heap

/-- Batches in a slice that is only read. -/
def bsR (v : Value) (bs : List (List Rq)) : Res := imm (fun w D => ∃ vals : List Value, ReadsIn w v 1 bs.length vals D ∧ ∀ k (hk : k < bs.length), ∃ u, vals[k]? = some u ∧ BatIn w u bs[k] D)
  (fun ⟨vals, h1, h2⟩ hk hs => ⟨vals, h1.dep hk hs, fun k hkl => let ⟨u, e, hb⟩ := h2 k hkl; ⟨u, e, hb.dep hk hs⟩⟩)

theorem bs_form {w : World} {A : List Nat} {v : Value} {bs : List (List Rq)} (h : (bsR v bs).At w A) : ∃ ao cap, v = .slice ao bs.length cap := by
  obtain ⟨_, ⟨⟨vals, h1, -⟩, -⟩, -⟩ := h
  obtain ⟨ao, cap, e, -⟩ := h1.1
  exact ⟨ao, cap, e⟩

theorem bs_at {w : World} {A : List Nat} {ao : Option Addr} {n cap : Nat} {bs : List (List Rq)} (h : (bsR (.slice ao n cap) bs).At w A) (k : Nat) (hk : k < bs.length) :
    ∃ b o u, ao = some ⟨b, o, none⟩ ∧ b < w.heap.size ∧ w.cell? ⟨b, o + k, none⟩ = some u ∧ Bat w u bs[k] := by
  obtain ⟨_, ⟨⟨vals, h1, h2⟩, -⟩, -⟩ := h
  obtain ⟨ao', cap', e, -, -, -, -, h5⟩ := h1.1
  cases e
  obtain ⟨b, o, rfl, hb, hc⟩ := h5 (by omega)
  obtain ⟨u, e, hu⟩ := h2 k hk
  exact ⟨b, o, u, rfl, hb, by rw [hc k (by omega), e], hu.1⟩

theorem preAll_len : ∀ (bs : List (List Rq)) (ps : List Pl), (preAll bs ps).length = ps.length
  | [], _ => by simp [preAll]
  | _ :: _, [] => by simp [preAll]
  | _ :: bs, p :: ps => by simp [preAll, preAll_len bs ps]

theorem preAll_take : ∀ (bs : List (List Rq)) (ps : List Pl) (k : Nat) (hk : k < bs.length), preAll (bs.take (k + 1)) ps = (preAll (bs.take k) ps).modify k fun p => { p with sl := slPre bs[k] p.sl }
  | [], _, _, hk => by simp at hk
  | b :: bs, [], k, _ => by simp [preAll]
  | b :: bs, p :: ps, 0, _ => by simp [preAll]
  | b :: bs, p :: ps, k + 1, hk => by
    rw [List.take_succ_cons, List.take_succ_cons, preAll, preAll, List.modify_succ_cons, preAll_take bs ps k (by simpa using hk)]
    rfl

section
variable {B : Nat} {w0 W W' : World} {ss rs : List Res} {x : Ins}

set_option maxHeartbeats 1000000 in
theorem ai_install {i : Nat} {st : In} {v : Value} {bs : List (List Rq)} (h : AtI B w0 W i st (bsR v bs :: ss)) (hbn : ∀ b ∈ bs, b.length ≤ 100000) (hon : st.on = false) (hlen : bs.length ≤ 16) :
    Calls Try.prog 44 #[.pointer (some ⟨i, 0, none⟩), v] W fun e w' => e = .returned (.bool true) ∧ AtI B w0 w' i { st with on := true, l := preAll bs st.l } (bsR v bs :: ss) := by
  obtain ⟨ao, cap, rfl⟩ := bs_form h.ss_own.head
  obtain ⟨x, rfl, rfl, h3⟩ := h
  have ho := own_open h3
  obtain ⟨-, -, -, -, c4, c5, l1, l2⟩ := oi_cells ho
  obtain ⟨-, fz⟩ := oi_fz ho
  have z4 := fz 4
  have hon' : x.on = false := hon
  rw [hon'] at c4
  have H1 : Hid (AtI B w0 (W.setCell ⟨x.i, 4, none⟩ (.bool true)) x.i { x.st with on := true } (bsR (.slice ao bs.length cap) bs :: ss)) := Lib.hid ⟨{ x with on := true }, rfl, rfl, own_shut (by
    have h4 : Own B w0 (W.setCell ⟨x.i, 4, none⟩ (.bool true)) (blk x.i (insO x.f x.num x.ahead x.view true (.slice (some ⟨x.b, 0, none⟩) 16 x.cap)) :: segR x.b 122 (x.l.flatMap pmCells) :: certsR x :: (x.l.map pmR ++ (bsR (.slice ao bs.length cap) bs :: ss))) := Own.store ho 4 (.bool true)
    exact oi_hd h4 (oi_ok ho).vw)⟩
  have hlb : decide ((16 : Int) < (bs.length : Int)) = false := by simp; omega
  clear ho h3 fz hon hon'
  generalize hl0 : x.st = st0 at *
  clear hl0
  generalize x.i = i at *
  have HBN := Lib.hid hbn
  clear hbn
  go_enter Try.func44, Try.ntmps44
  go_wp2_with fail
  generalize W.setCell ⟨i, 4, none⟩ (.bool true) = w1 at *
  clear c4 c5 l1 l2 z4 hlb
  go_loopw [26] (fun n wr => ∃ k : Nat, k ≤ bs.length ∧ n = .int .i64 k ∧ Hid (AtI B w0 wr i { st0 with on := true, l := preAll (bs.take k) st0.l } (bsR (.slice ao bs.length cap) bs :: ss))) (fun n _ => bs.length - (intOf n).toNat)
  case atStart => exact ⟨0, by omega, rfl, Lib.hid (by simpa [preAll] using H1.out)⟩
  case round =>
    clear H1
    obtain ⟨k, hk, rfl, H1⟩ := hrel
    by_cases hlt : k < bs.length
    · have hkI : (k : Int) < (bs.length : Int) := by omega
      have hk16 : (k : Int) < 16 := by omega
      obtain ⟨b, o, u, rfl, hb, cu, hbat⟩ := bs_at H1.out.ss_own.head k hlt
      obtain ⟨y, rfl, hy, h3⟩ := H1.out
      have ho := own_open h3
      obtain ⟨-, -, -, -, -, c5, l1, l2⟩ := oi_cells ho
      have hyl : k < y.l.length := by rw [(oi_ok ho).n]; omega
      have cp := oi_ptr ho k hyl
      have HC := Lib.hid (own_pre (oi_pick ho k hyl) u bs[k] hbat (HBN.out _ (List.getElem_mem hlt)))
      have HS := Lib.hid (show ({ y.st with l := y.st.l.modify k fun p => { p with sl := slPre bs[k] p.sl } } : In) = { st0 with on := true, l := preAll (bs.take (k + 1)) st0.l } by rw [hy, preAll_take bs st0.l k hlt])
      have HY := Lib.hid hyl
      obtain ⟨uo, ucap, rfl⟩ := bat_form hbat
      clear ho h3 H1 hy hbat
      go_wp2_with fail
      refine HC.out.mono ?_
      rintro e w2 ⟨rfl, -, h2⟩
      have H2 : Hid (AtI B w0 w2 y.i { st0 with on := true, l := preAll (bs.take (k + 1)) st0.l } (bsR (.slice (some ⟨b, o, none⟩) bs.length cap) bs :: ss)) := Lib.hid
        ⟨y.sl k { y.l[k] with sl := slPre bs[k] y.l[k].sl }, rfl, by rw [← HS.out]; exact st_set y k HY.out _ (fun p => { p with sl := slPre bs[k] p.sl }) rfl, own_shut (oi_unpick k HY.out _ h2 rfl ⟨rfl, rfl⟩ rfl)⟩
      clear h2
      go_wp2_with fail
      go_roundw
      case rel => exact ⟨k + 1, by omega, by go_num, H2⟩
      case measure => simp [intOf]; omega
    · have hkb : decide ((k : Int) < (bs.length : Int)) = false := by simp; omega
      have hke : k = bs.length := by omega
      have H2 : Hid (AtI B w0 wr i { st0 with on := true, l := preAll bs st0.l } (bsR (.slice ao bs.length cap) bs :: ss)) := Lib.hid (by have h := H1.out; rw [hke, List.take_length] at h; exact h)
      clear hke H1
      go_wp2_with fail
      go_ret
      exact ⟨rfl, H2.out⟩

end

end Go.Proofs.Ytdeadekeffficaa
