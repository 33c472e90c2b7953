/- Parts of the proof, one behind the other. -/
import Derived.Test.YtannckelmojkoaaGreatMovB18

/- msgs.Open in general. -/
namespace Go.Proofs.YtannckelmojkoaaGreat
open Go.RowKit Go.Heap

theorem bytd {w : World} {ao : Option Addr} {cap a : Nat} {bs : Bys} (h : Byt w (.slice ao bs.length cap) bs) (ha : a ≤ bs.length) : Byt w (.slice (ao.map fun x => x.add a) (bs.length - a) (cap - a)) (bs.drop a) := by
  obtain ⟨⟨ao', cap', e, h1, h2, h3, h4, h5⟩, hb⟩ := h
  cases e
  refine ⟨⟨_, _, by rw [List.length_drop], by rw [List.length_drop]; omega, by omega, by simp, fun e => ?_, fun hn => ?_⟩, fun c hc => hb c (List.mem_of_mem_drop hc)⟩
  · cases ao with
    | none => have := h4 rfl; rw [List.length_drop]; omega
    | some x => cases e
  · rw [List.length_drop] at hn
    obtain ⟨b, o, rfl, hlt, hc⟩ := h5 (by omega)
    refine ⟨b, o + a, ?_, hlt, fun j hj => ?_⟩
    · simp only [Option.map_some, Option.some.injEq]
      exact addr_add b o a
    · rw [List.length_drop] at hj
      rw [Nat.add_assoc, hc (a + j) (by omega)]
      simp
theorem bytd0 {w : World} {ao : Option Addr} {a : Nat} {bs : Bys} (h : Byt w (.slice ao bs.length a) bs) (ha : a ≤ bs.length) (h0 : 0 < a) : Byt w (.slice ao 0 0) (bs.drop a) := by
  obtain ⟨⟨ao', cap', e, h1, h2, h3, h4, h5⟩, hb⟩ := h
  cases e
  have hl : bs.length = a := by omega
  refine ⟨⟨ao, 0, by rw [List.length_drop, hl, Nat.sub_self], by rw [List.length_drop]; omega, by omega, by simp, fun e => ?_, fun hn => ?_⟩, fun c hc => hb c (List.mem_of_mem_drop hc)⟩
  · rw [List.length_drop]; omega
  · rw [List.length_drop] at hn; omega

/-- The message of an envelope, and its seal. -/
def openP (l : Nt) (f : Nat) (cl : Int) (bs : Bys) : Option (Ms × Int) :=
  match takeN bs 0 with
  | none => none
  | some (v, a) => match parseP (bs.drop a) with
    | none => none
    | some m => if formP f cl m && (decide ((m.fm, bs.drop a) ∈ l) && (findN l m.fm (bs.drop a) == (v : Int))) then some (m, v) else none
def OpenP (B : Nat) (w0 : World) (ss : List Res) (o : Option (Ms × Int)) (e : Ending) (w' : World) : Prop := match o with
  | none => e = .returned (.tuple #[.agg (mmA noMm), .int .i64 0, .int .i64 2]) ∧ Own B w0 w' ss
  | some (m, sl) => ∃ mm : Mm, e = .returned (.tuple #[.agg (mmA mm), .int .i64 sl, .int .i64 0]) ∧ mm.ms = m ∧ MsOk m ∧ Own B w0 w' (mmR mm ss)
/-- The notary is among these. -/
def NtIn (ss : List Res) (nt nm : Nat) (l : Nt) : Prop := blk nt (noB nm) ∈ ss ∧ ntR nm l ∈ ss
theorem nt_in {B : Nat} {w0 W : World} {rs ss : List Res} {nt nm : Nat} {l : Nt} (h : Own B w0 W rs) (hn : NtIn ss nt nm l) (hs : ∀ r ∈ ss, r ∈ rs) : NtAt W nt nm l := by
  obtain ⟨i, hi⟩ := List.getElem?_of_mem (hs _ hn.1)
  obtain ⟨j, hj⟩ := List.getElem?_of_mem (hs _ hn.2)
  exact nt_at h i j hi hj

set_option maxHeartbeats 8000000 in
set_option maxRecDepth 100000 in
theorem open_any {B : Nat} {w0 W : World} {ss : List Res} {p nm f : Nat} {l : Nt} {cl : Int} {bv : Value} {bs : Bys} (hf1 : 1 ≤ f) (hf2 : f ≤ 4) (hc1 : 1 ≤ cl) (hc2 : cl ≤ 4) (h : Own B w0 W ss) (hb : RdOk w0 B bv bs ss) (hn : NtIn ss p nm l) (hl0 : NtOk l) :
    Calls Tryz.prog 27 #[bv, .int .i64 f, .int .i64 cl, .pointer (some ⟨p, 0, none⟩)] W (OpenP B w0 ss (openP l f cl bs)) := by
  have HB := Lib.hid hb
  have hl := hb.l
  obtain ⟨ao, cap, rfl, hcap, hmax⟩ := hb.f
  have H0 := Lib.hid (h.box (.cells #[.int .i64 0, .int .i64 0, .int .i64 0, .int .i64 0, .int .i64 0, .int .i64 0, .slice none 0 0, .slice none 0 0, .slice none 0 0, .slice none 0 0] 47 (0, 0)))
  have hlI : decide ((65536 : Int) < (bs.length : Int)) = false := by simp; omega
  have HT := Lib.hid (take_any _ bs 0 _ (HB.out.b H0.out (by simp +contextual)) (by omega) (by omega))
  have HO : Hid (openP l f cl bs = match takeN bs 0 with | none => none | some (v, a) => match parseP (bs.drop a) with | none => none | some m => if formP f cl m && (decide ((m.fm, bs.drop a) ∈ l) && (findN l m.fm (bs.drop a) == (v : Int))) then some (m, v) else none) := Lib.hid rfl
  generalize openP l f cl bs = op at *
  clear hb h
  go_enter Tryz.func27, Tryz.ntmps27
  go_wp2_with fail
  generalize World.alloc W _ = W1 at *
  refine HT.out.mono ?_
  rintro e w1 ⟨rfl, rfl⟩
  clear HT
  have b0 := H0.out.blkAt 0 rfl
  have x0 : w1.cell? ⟨W.heap.size, 0, none⟩ = some (.int .i64 0) := cell_blk b0 0 rfl
  have z0 := block_frozen b0 0
  have x1 : w1.cell? ⟨W.heap.size, 1, none⟩ = some (.int .i64 0) := cell_blk b0 1 rfl
  have z1 := block_frozen b0 1
  have x2 : w1.cell? ⟨W.heap.size, 2, none⟩ = some (.int .i64 0) := cell_blk b0 2 rfl
  have z2 := block_frozen b0 2
  have x3 : w1.cell? ⟨W.heap.size, 3, none⟩ = some (.int .i64 0) := cell_blk b0 3 rfl
  have z3 := block_frozen b0 3
  have x4 : w1.cell? ⟨W.heap.size, 4, none⟩ = some (.int .i64 0) := cell_blk b0 4 rfl
  have z4 := block_frozen b0 4
  have x5 : w1.cell? ⟨W.heap.size, 5, none⟩ = some (.int .i64 0) := cell_blk b0 5 rfl
  have z5 := block_frozen b0 5
  have x6 : w1.cell? ⟨W.heap.size, 6, none⟩ = some (.slice none 0 0) := cell_blk b0 6 rfl
  have z6 := block_frozen b0 6
  have x7 : w1.cell? ⟨W.heap.size, 7, none⟩ = some (.slice none 0 0) := cell_blk b0 7 rfl
  have z7 := block_frozen b0 7
  have x8 : w1.cell? ⟨W.heap.size, 8, none⟩ = some (.slice none 0 0) := cell_blk b0 8 rfl
  have z8 := block_frozen b0 8
  have x9 : w1.cell? ⟨W.heap.size, 9, none⟩ = some (.slice none 0 0) := cell_blk b0 9 rfl
  have z9 := block_frozen b0 9
  cases ht : takeN bs 0 with
  | none =>
    rw [ht] at HO
    simp only at HO
    clear ht
    have s0 := H0.out
    have s1 := Own.storeTo s0 0 (.int .i64 0) (o' := .cells #[.int .i64 0, .int .i64 0, .int .i64 0, .int .i64 0, .int .i64 0, .int .i64 0, .slice none 0 0, .slice none 0 0, .slice none 0 0, .slice none 0 0] 47 (0, 0)) rfl
    clear s0
    have s2 := Own.storeTo s1 1 (.int .i64 0) (o' := .cells #[.int .i64 0, .int .i64 0, .int .i64 0, .int .i64 0, .int .i64 0, .int .i64 0, .slice none 0 0, .slice none 0 0, .slice none 0 0, .slice none 0 0] 47 (0, 0)) rfl
    clear s1
    have s3 := Own.storeTo s2 2 (.int .i64 0) (o' := .cells #[.int .i64 0, .int .i64 0, .int .i64 0, .int .i64 0, .int .i64 0, .int .i64 0, .slice none 0 0, .slice none 0 0, .slice none 0 0, .slice none 0 0] 47 (0, 0)) rfl
    clear s2
    have s4 := Own.storeTo s3 3 (.int .i64 0) (o' := .cells #[.int .i64 0, .int .i64 0, .int .i64 0, .int .i64 0, .int .i64 0, .int .i64 0, .slice none 0 0, .slice none 0 0, .slice none 0 0, .slice none 0 0] 47 (0, 0)) rfl
    clear s3
    have s5 := Own.storeTo s4 4 (.int .i64 0) (o' := .cells #[.int .i64 0, .int .i64 0, .int .i64 0, .int .i64 0, .int .i64 0, .int .i64 0, .slice none 0 0, .slice none 0 0, .slice none 0 0, .slice none 0 0] 47 (0, 0)) rfl
    clear s4
    have s6 := Own.storeTo s5 5 (.int .i64 0) (o' := .cells #[.int .i64 0, .int .i64 0, .int .i64 0, .int .i64 0, .int .i64 0, .int .i64 0, .slice none 0 0, .slice none 0 0, .slice none 0 0, .slice none 0 0] 47 (0, 0)) rfl
    clear s5
    have s7 := Own.storeTo s6 6 (.slice none 0 0) (o' := .cells #[.int .i64 0, .int .i64 0, .int .i64 0, .int .i64 0, .int .i64 0, .int .i64 0, .slice none 0 0, .slice none 0 0, .slice none 0 0, .slice none 0 0] 47 (0, 0)) rfl
    clear s6
    have s8 := Own.storeTo s7 7 (.slice none 0 0) (o' := .cells #[.int .i64 0, .int .i64 0, .int .i64 0, .int .i64 0, .int .i64 0, .int .i64 0, .slice none 0 0, .slice none 0 0, .slice none 0 0, .slice none 0 0] 47 (0, 0)) rfl
    clear s7
    have s9 := Own.storeTo s8 8 (.slice none 0 0) (o' := .cells #[.int .i64 0, .int .i64 0, .int .i64 0, .int .i64 0, .int .i64 0, .int .i64 0, .slice none 0 0, .slice none 0 0, .slice none 0 0, .slice none 0 0] 47 (0, 0)) rfl
    clear s8
    have s10 := Own.storeTo s9 9 (.slice none 0 0) (o' := .cells #[.int .i64 0, .int .i64 0, .int .i64 0, .int .i64 0, .int .i64 0, .int .i64 0, .slice none 0 0, .slice none 0 0, .slice none 0 0, .slice none 0 0] 47 (0, 0)) rfl
    clear s9
    have HR := Lib.hid s10
    clear s10
    go_wp2_with fail
    generalize World.setCell _ _ _ = y at *
    have f0 : y.cell? ⟨W.heap.size, 0, none⟩ = some (.int .i64 0) := cell_blk (HR.out.blkAt 0 rfl) 0 rfl
    have f1 : y.cell? ⟨W.heap.size, 1, none⟩ = some (.int .i64 0) := cell_blk (HR.out.blkAt 0 rfl) 1 rfl
    have f2 : y.cell? ⟨W.heap.size, 2, none⟩ = some (.int .i64 0) := cell_blk (HR.out.blkAt 0 rfl) 2 rfl
    have f3 : y.cell? ⟨W.heap.size, 3, none⟩ = some (.int .i64 0) := cell_blk (HR.out.blkAt 0 rfl) 3 rfl
    have f4 : y.cell? ⟨W.heap.size, 4, none⟩ = some (.int .i64 0) := cell_blk (HR.out.blkAt 0 rfl) 4 rfl
    have f5 : y.cell? ⟨W.heap.size, 5, none⟩ = some (.int .i64 0) := cell_blk (HR.out.blkAt 0 rfl) 5 rfl
    have f6 : y.cell? ⟨W.heap.size, 6, none⟩ = some (.slice none 0 0) := cell_blk (HR.out.blkAt 0 rfl) 6 rfl
    have f7 : y.cell? ⟨W.heap.size, 7, none⟩ = some (.slice none 0 0) := cell_blk (HR.out.blkAt 0 rfl) 7 rfl
    have f8 : y.cell? ⟨W.heap.size, 8, none⟩ = some (.slice none 0 0) := cell_blk (HR.out.blkAt 0 rfl) 8 rfl
    have f9 : y.cell? ⟨W.heap.size, 9, none⟩ = some (.slice none 0 0) := cell_blk (HR.out.blkAt 0 rfl) 9 rfl
    exact bodyPost_ret (v := .tuple #[.agg #[.int .i64 0, .int .i64 0, .int .i64 0, .int .i64 0, .int .i64 0, .int .i64 0, .slice none 0 0, .slice none 0 0, .slice none 0 0, .slice none 0 0], .int .i64 0, .int .i64 2]) (by simp [results, Tryz.results27, go_sem, f0, f1, f2, f3, f4, f5, f6, f7, f8, f9]) rfl (by rw [HO.out]; exact ⟨rfl, HR.out.drop⟩)
  | some q =>
    obtain ⟨v, a⟩ := q
    have hab := (takeN_in ht).2
    rw [ht] at HO
    simp only at HO
    clear ht
    by_cases hca : cap = a
    · subst hca
      have HBY : Hid (∀ w rs, Own B w0 w rs → (∀ r ∈ ss, r ∈ rs) → Byt w (.slice ao 0 0) (bs.drop cap)) := Lib.hid (fun w rs ho hs => bytd0 (HB.out.b ho hs) (by omega) (by omega))
      have hfm := byt_form (HBY.out _ _ H0.out (by simp +contextual))
      have HPA := Lib.hid (parse_any H0.out ⟨fun ho hs => HBY.out _ _ ho (fun r hr => hs r (by simp [hr])), hfm, by rw [List.length_drop]; omega⟩)
      have HOK : Hid (∀ m, parseP (bs.drop cap) = some m → MsOk m) := Lib.hid (fun m h => parse_ok h)
      have HDL : Hid (∀ c ∈ bs.drop cap, c < 256) := Lib.hid ((HBY.out _ _ H0.out (by simp +contextual)).2)
      have HDN : Hid ((bs.drop cap).length ≤ 100000) := Lib.hid (by rw [List.length_drop]; omega)
      clear hfm
      generalize parseP (bs.drop cap) = po at *
      go_wp2_with fail
      refine HPA.out.mono ?_
      intro e w2 hq
      clear HPA
      clear b0 x0 z0 x1 z1 x2 z2 x3 z3 x4 z4 x5 z5 x6 z6 x7 z7 x8 z8 x9 z9
      cases po with
      | none =>
        simp only at HO
        obtain ⟨he, ho⟩ := hq
        have he : e = .returned (.tuple #[.agg #[.int .i64 0, .int .i64 0, .int .i64 0, .int .i64 0, .int .i64 0, .int .i64 0, .slice none 0 0, .slice none 0 0, .slice none 0 0, .slice none 0 0], .bool false]) := he
        subst he
        have b0 := ho.blkAt 0 rfl
        have x0 : w2.cell? ⟨W.heap.size, 0, none⟩ = some (.int .i64 0) := cell_blk b0 0 rfl
        have z0 := block_frozen b0 0
        have x1 : w2.cell? ⟨W.heap.size, 1, none⟩ = some (.int .i64 0) := cell_blk b0 1 rfl
        have z1 := block_frozen b0 1
        have x2 : w2.cell? ⟨W.heap.size, 2, none⟩ = some (.int .i64 0) := cell_blk b0 2 rfl
        have z2 := block_frozen b0 2
        have x3 : w2.cell? ⟨W.heap.size, 3, none⟩ = some (.int .i64 0) := cell_blk b0 3 rfl
        have z3 := block_frozen b0 3
        have x4 : w2.cell? ⟨W.heap.size, 4, none⟩ = some (.int .i64 0) := cell_blk b0 4 rfl
        have z4 := block_frozen b0 4
        have x5 : w2.cell? ⟨W.heap.size, 5, none⟩ = some (.int .i64 0) := cell_blk b0 5 rfl
        have z5 := block_frozen b0 5
        have x6 : w2.cell? ⟨W.heap.size, 6, none⟩ = some (.slice none 0 0) := cell_blk b0 6 rfl
        have z6 := block_frozen b0 6
        have x7 : w2.cell? ⟨W.heap.size, 7, none⟩ = some (.slice none 0 0) := cell_blk b0 7 rfl
        have z7 := block_frozen b0 7
        have x8 : w2.cell? ⟨W.heap.size, 8, none⟩ = some (.slice none 0 0) := cell_blk b0 8 rfl
        have z8 := block_frozen b0 8
        have x9 : w2.cell? ⟨W.heap.size, 9, none⟩ = some (.slice none 0 0) := cell_blk b0 9 rfl
        have z9 := block_frozen b0 9
        have s0 := ho
        have s1 := Own.storeTo s0 0 (.int .i64 0) (o' := .cells #[.int .i64 0, .int .i64 0, .int .i64 0, .int .i64 0, .int .i64 0, .int .i64 0, .slice none 0 0, .slice none 0 0, .slice none 0 0, .slice none 0 0] 47 (0, 0)) rfl
        clear s0
        have s2 := Own.storeTo s1 1 (.int .i64 0) (o' := .cells #[.int .i64 0, .int .i64 0, .int .i64 0, .int .i64 0, .int .i64 0, .int .i64 0, .slice none 0 0, .slice none 0 0, .slice none 0 0, .slice none 0 0] 47 (0, 0)) rfl
        clear s1
        have s3 := Own.storeTo s2 2 (.int .i64 0) (o' := .cells #[.int .i64 0, .int .i64 0, .int .i64 0, .int .i64 0, .int .i64 0, .int .i64 0, .slice none 0 0, .slice none 0 0, .slice none 0 0, .slice none 0 0] 47 (0, 0)) rfl
        clear s2
        have s4 := Own.storeTo s3 3 (.int .i64 0) (o' := .cells #[.int .i64 0, .int .i64 0, .int .i64 0, .int .i64 0, .int .i64 0, .int .i64 0, .slice none 0 0, .slice none 0 0, .slice none 0 0, .slice none 0 0] 47 (0, 0)) rfl
        clear s3
        have s5 := Own.storeTo s4 4 (.int .i64 0) (o' := .cells #[.int .i64 0, .int .i64 0, .int .i64 0, .int .i64 0, .int .i64 0, .int .i64 0, .slice none 0 0, .slice none 0 0, .slice none 0 0, .slice none 0 0] 47 (0, 0)) rfl
        clear s4
        have s6 := Own.storeTo s5 5 (.int .i64 0) (o' := .cells #[.int .i64 0, .int .i64 0, .int .i64 0, .int .i64 0, .int .i64 0, .int .i64 0, .slice none 0 0, .slice none 0 0, .slice none 0 0, .slice none 0 0] 47 (0, 0)) rfl
        clear s5
        have s7 := Own.storeTo s6 6 (.slice none 0 0) (o' := .cells #[.int .i64 0, .int .i64 0, .int .i64 0, .int .i64 0, .int .i64 0, .int .i64 0, .slice none 0 0, .slice none 0 0, .slice none 0 0, .slice none 0 0] 47 (0, 0)) rfl
        clear s6
        have s8 := Own.storeTo s7 7 (.slice none 0 0) (o' := .cells #[.int .i64 0, .int .i64 0, .int .i64 0, .int .i64 0, .int .i64 0, .int .i64 0, .slice none 0 0, .slice none 0 0, .slice none 0 0, .slice none 0 0] 47 (0, 0)) rfl
        clear s7
        have s9 := Own.storeTo s8 8 (.slice none 0 0) (o' := .cells #[.int .i64 0, .int .i64 0, .int .i64 0, .int .i64 0, .int .i64 0, .int .i64 0, .slice none 0 0, .slice none 0 0, .slice none 0 0, .slice none 0 0] 47 (0, 0)) rfl
        clear s8
        have s10 := Own.storeTo s9 9 (.slice none 0 0) (o' := .cells #[.int .i64 0, .int .i64 0, .int .i64 0, .int .i64 0, .int .i64 0, .int .i64 0, .slice none 0 0, .slice none 0 0, .slice none 0 0, .slice none 0 0] 47 (0, 0)) rfl
        clear s9
        have HR := Lib.hid s10
        clear s10
        clear ho b0
        go_wp2_with fail
        generalize World.setCell _ _ _ = y at *
        clear x0 z0 x1 z1 x2 z2 x3 z3 x4 z4 x5 z5 x6 z6 x7 z7 x8 z8 x9 z9
        have b0 := HR.out.blkAt 0 rfl
        have x0 : y.cell? ⟨W.heap.size, 0, none⟩ = some (.int .i64 0) := cell_blk b0 0 rfl
        have z0 := block_frozen b0 0
        have x1 : y.cell? ⟨W.heap.size, 1, none⟩ = some (.int .i64 0) := cell_blk b0 1 rfl
        have z1 := block_frozen b0 1
        have x2 : y.cell? ⟨W.heap.size, 2, none⟩ = some (.int .i64 0) := cell_blk b0 2 rfl
        have z2 := block_frozen b0 2
        have x3 : y.cell? ⟨W.heap.size, 3, none⟩ = some (.int .i64 0) := cell_blk b0 3 rfl
        have z3 := block_frozen b0 3
        have x4 : y.cell? ⟨W.heap.size, 4, none⟩ = some (.int .i64 0) := cell_blk b0 4 rfl
        have z4 := block_frozen b0 4
        have x5 : y.cell? ⟨W.heap.size, 5, none⟩ = some (.int .i64 0) := cell_blk b0 5 rfl
        have z5 := block_frozen b0 5
        have x6 : y.cell? ⟨W.heap.size, 6, none⟩ = some (.slice none 0 0) := cell_blk b0 6 rfl
        have z6 := block_frozen b0 6
        have x7 : y.cell? ⟨W.heap.size, 7, none⟩ = some (.slice none 0 0) := cell_blk b0 7 rfl
        have z7 := block_frozen b0 7
        have x8 : y.cell? ⟨W.heap.size, 8, none⟩ = some (.slice none 0 0) := cell_blk b0 8 rfl
        have z8 := block_frozen b0 8
        have x9 : y.cell? ⟨W.heap.size, 9, none⟩ = some (.slice none 0 0) := cell_blk b0 9 rfl
        have z9 := block_frozen b0 9
        go_quiet (fail)
        generalize hy1 : World.drewN y _ = y1
        have HR1 : Own B w0 y1 (blk W.heap.size (.cells #[.int .i64 0, .int .i64 0, .int .i64 0, .int .i64 0, .int .i64 0, .int .i64 0, .slice none 0 0, .slice none 0 0, .slice none 0 0, .slice none 0 0] 47 (0, 0)) :: ss) := by rw [← hy1]; exact HR.out.upd0 ((Upd.refl _ _).drewN _)
        clear hy1 HR b0 x0 z0 x1 z1 x2 z2 x3 z3 x4 z4 x5 z5 x6 z6 x7 z7 x8 z8 x9 z9
        have b0 := HR1.blkAt 0 rfl
        have x0 : y1.cell? ⟨W.heap.size, 0, none⟩ = some (.int .i64 0) := cell_blk b0 0 rfl
        have z0 := block_frozen b0 0
        have x1 : y1.cell? ⟨W.heap.size, 1, none⟩ = some (.int .i64 0) := cell_blk b0 1 rfl
        have z1 := block_frozen b0 1
        have x2 : y1.cell? ⟨W.heap.size, 2, none⟩ = some (.int .i64 0) := cell_blk b0 2 rfl
        have z2 := block_frozen b0 2
        have x3 : y1.cell? ⟨W.heap.size, 3, none⟩ = some (.int .i64 0) := cell_blk b0 3 rfl
        have z3 := block_frozen b0 3
        have x4 : y1.cell? ⟨W.heap.size, 4, none⟩ = some (.int .i64 0) := cell_blk b0 4 rfl
        have z4 := block_frozen b0 4
        have x5 : y1.cell? ⟨W.heap.size, 5, none⟩ = some (.int .i64 0) := cell_blk b0 5 rfl
        have z5 := block_frozen b0 5
        have x6 : y1.cell? ⟨W.heap.size, 6, none⟩ = some (.slice none 0 0) := cell_blk b0 6 rfl
        have z6 := block_frozen b0 6
        have x7 : y1.cell? ⟨W.heap.size, 7, none⟩ = some (.slice none 0 0) := cell_blk b0 7 rfl
        have z7 := block_frozen b0 7
        have x8 : y1.cell? ⟨W.heap.size, 8, none⟩ = some (.slice none 0 0) := cell_blk b0 8 rfl
        have z8 := block_frozen b0 8
        have x9 : y1.cell? ⟨W.heap.size, 9, none⟩ = some (.slice none 0 0) := cell_blk b0 9 rfl
        have z9 := block_frozen b0 9
        have s0 := HR1
        have s1 := Own.storeTo s0 0 (.int .i64 0) (o' := .cells #[.int .i64 0, .int .i64 0, .int .i64 0, .int .i64 0, .int .i64 0, .int .i64 0, .slice none 0 0, .slice none 0 0, .slice none 0 0, .slice none 0 0] 47 (0, 0)) rfl
        clear s0
        have s2 := Own.storeTo s1 1 (.int .i64 0) (o' := .cells #[.int .i64 0, .int .i64 0, .int .i64 0, .int .i64 0, .int .i64 0, .int .i64 0, .slice none 0 0, .slice none 0 0, .slice none 0 0, .slice none 0 0] 47 (0, 0)) rfl
        clear s1
        have s3 := Own.storeTo s2 2 (.int .i64 0) (o' := .cells #[.int .i64 0, .int .i64 0, .int .i64 0, .int .i64 0, .int .i64 0, .int .i64 0, .slice none 0 0, .slice none 0 0, .slice none 0 0, .slice none 0 0] 47 (0, 0)) rfl
        clear s2
        have s4 := Own.storeTo s3 3 (.int .i64 0) (o' := .cells #[.int .i64 0, .int .i64 0, .int .i64 0, .int .i64 0, .int .i64 0, .int .i64 0, .slice none 0 0, .slice none 0 0, .slice none 0 0, .slice none 0 0] 47 (0, 0)) rfl
        clear s3
        have s5 := Own.storeTo s4 4 (.int .i64 0) (o' := .cells #[.int .i64 0, .int .i64 0, .int .i64 0, .int .i64 0, .int .i64 0, .int .i64 0, .slice none 0 0, .slice none 0 0, .slice none 0 0, .slice none 0 0] 47 (0, 0)) rfl
        clear s4
        have s6 := Own.storeTo s5 5 (.int .i64 0) (o' := .cells #[.int .i64 0, .int .i64 0, .int .i64 0, .int .i64 0, .int .i64 0, .int .i64 0, .slice none 0 0, .slice none 0 0, .slice none 0 0, .slice none 0 0] 47 (0, 0)) rfl
        clear s5
        have s7 := Own.storeTo s6 6 (.slice none 0 0) (o' := .cells #[.int .i64 0, .int .i64 0, .int .i64 0, .int .i64 0, .int .i64 0, .int .i64 0, .slice none 0 0, .slice none 0 0, .slice none 0 0, .slice none 0 0] 47 (0, 0)) rfl
        clear s6
        have s8 := Own.storeTo s7 7 (.slice none 0 0) (o' := .cells #[.int .i64 0, .int .i64 0, .int .i64 0, .int .i64 0, .int .i64 0, .int .i64 0, .slice none 0 0, .slice none 0 0, .slice none 0 0, .slice none 0 0] 47 (0, 0)) rfl
        clear s7
        have s9 := Own.storeTo s8 8 (.slice none 0 0) (o' := .cells #[.int .i64 0, .int .i64 0, .int .i64 0, .int .i64 0, .int .i64 0, .int .i64 0, .slice none 0 0, .slice none 0 0, .slice none 0 0, .slice none 0 0] 47 (0, 0)) rfl
        clear s8
        have s10 := Own.storeTo s9 9 (.slice none 0 0) (o' := .cells #[.int .i64 0, .int .i64 0, .int .i64 0, .int .i64 0, .int .i64 0, .int .i64 0, .slice none 0 0, .slice none 0 0, .slice none 0 0, .slice none 0 0] 47 (0, 0)) rfl
        clear s9
        have HR2 := Lib.hid s10
        clear s10
        clear b0
        go_wp2_with fail
        generalize World.setCell _ _ _ = y2 at *
        have f0 : y2.cell? ⟨W.heap.size, 0, none⟩ = some (.int .i64 0) := cell_blk (HR2.out.blkAt 0 rfl) 0 rfl
        have f1 : y2.cell? ⟨W.heap.size, 1, none⟩ = some (.int .i64 0) := cell_blk (HR2.out.blkAt 0 rfl) 1 rfl
        have f2 : y2.cell? ⟨W.heap.size, 2, none⟩ = some (.int .i64 0) := cell_blk (HR2.out.blkAt 0 rfl) 2 rfl
        have f3 : y2.cell? ⟨W.heap.size, 3, none⟩ = some (.int .i64 0) := cell_blk (HR2.out.blkAt 0 rfl) 3 rfl
        have f4 : y2.cell? ⟨W.heap.size, 4, none⟩ = some (.int .i64 0) := cell_blk (HR2.out.blkAt 0 rfl) 4 rfl
        have f5 : y2.cell? ⟨W.heap.size, 5, none⟩ = some (.int .i64 0) := cell_blk (HR2.out.blkAt 0 rfl) 5 rfl
        have f6 : y2.cell? ⟨W.heap.size, 6, none⟩ = some (.slice none 0 0) := cell_blk (HR2.out.blkAt 0 rfl) 6 rfl
        have f7 : y2.cell? ⟨W.heap.size, 7, none⟩ = some (.slice none 0 0) := cell_blk (HR2.out.blkAt 0 rfl) 7 rfl
        have f8 : y2.cell? ⟨W.heap.size, 8, none⟩ = some (.slice none 0 0) := cell_blk (HR2.out.blkAt 0 rfl) 8 rfl
        have f9 : y2.cell? ⟨W.heap.size, 9, none⟩ = some (.slice none 0 0) := cell_blk (HR2.out.blkAt 0 rfl) 9 rfl
        exact bodyPost_ret (v := .tuple #[.agg #[.int .i64 0, .int .i64 0, .int .i64 0, .int .i64 0, .int .i64 0, .int .i64 0, .slice none 0 0, .slice none 0 0, .slice none 0 0, .slice none 0 0], .int .i64 0, .int .i64 2]) (by simp [results, Tryz.results27, go_sem, f0, f1, f2, f3, f4, f5, f6, f7, f8, f9]) rfl (by rw [HO.out]; exact ⟨rfl, HR2.out.drop⟩)
      | some ms =>
        obtain ⟨mm, he, rfl, ho⟩ := hq
        have HMO := Lib.hid (HOK.out _ rfl)
        have hfr := (mm_at ho HMO.out).form
        obtain ⟨k, fm, vw, it, sq, rs, vb, l6, vv, l7, vc, l8, vp, l9⟩ := mm
        obtain ⟨⟨a6, c6, e6⟩, ⟨a7, c7, e7⟩, ⟨a8, c8, e8⟩, ⟨a9, c9, e9⟩⟩ := hfr
        simp only at e6 e7 e8 e9
        subst e6 e7 e8 e9
        have he : e = .returned (.tuple #[.agg #[.int .i64 k, .int .i64 fm, .int .i64 vw, .int .i64 it, .int .i64 sq, .int .i64 rs, .slice a6 l6.length c6, .slice a7 l7.length c7, .slice a8 l8.length c8, .slice a9 l9.length c9], .bool true]) := he
        subst he
        have ho2 := ho.front 6 rfl rfl
        clear ho
        have b0 := ho2.blkAt 0 rfl
        have x0 : w2.cell? ⟨W.heap.size, 0, none⟩ = some (.int .i64 0) := cell_blk b0 0 rfl
        have z0 := block_frozen b0 0
        have x1 : w2.cell? ⟨W.heap.size, 1, none⟩ = some (.int .i64 0) := cell_blk b0 1 rfl
        have z1 := block_frozen b0 1
        have x2 : w2.cell? ⟨W.heap.size, 2, none⟩ = some (.int .i64 0) := cell_blk b0 2 rfl
        have z2 := block_frozen b0 2
        have x3 : w2.cell? ⟨W.heap.size, 3, none⟩ = some (.int .i64 0) := cell_blk b0 3 rfl
        have z3 := block_frozen b0 3
        have x4 : w2.cell? ⟨W.heap.size, 4, none⟩ = some (.int .i64 0) := cell_blk b0 4 rfl
        have z4 := block_frozen b0 4
        have x5 : w2.cell? ⟨W.heap.size, 5, none⟩ = some (.int .i64 0) := cell_blk b0 5 rfl
        have z5 := block_frozen b0 5
        have x6 : w2.cell? ⟨W.heap.size, 6, none⟩ = some (.slice none 0 0) := cell_blk b0 6 rfl
        have z6 := block_frozen b0 6
        have x7 : w2.cell? ⟨W.heap.size, 7, none⟩ = some (.slice none 0 0) := cell_blk b0 7 rfl
        have z7 := block_frozen b0 7
        have x8 : w2.cell? ⟨W.heap.size, 8, none⟩ = some (.slice none 0 0) := cell_blk b0 8 rfl
        have z8 := block_frozen b0 8
        have x9 : w2.cell? ⟨W.heap.size, 9, none⟩ = some (.slice none 0 0) := cell_blk b0 9 rfl
        have z9 := block_frozen b0 9
        have s0 := ho2
        have s1 := Own.storeTo s0 0 (.int .i64 k) (o' := .cells #[.int .i64 k, .int .i64 0, .int .i64 0, .int .i64 0, .int .i64 0, .int .i64 0, .slice none 0 0, .slice none 0 0, .slice none 0 0, .slice none 0 0] 47 (0, 0)) rfl
        clear s0
        have s2 := Own.storeTo s1 1 (.int .i64 fm) (o' := .cells #[.int .i64 k, .int .i64 fm, .int .i64 0, .int .i64 0, .int .i64 0, .int .i64 0, .slice none 0 0, .slice none 0 0, .slice none 0 0, .slice none 0 0] 47 (0, 0)) rfl
        clear s1
        have s3 := Own.storeTo s2 2 (.int .i64 vw) (o' := .cells #[.int .i64 k, .int .i64 fm, .int .i64 vw, .int .i64 0, .int .i64 0, .int .i64 0, .slice none 0 0, .slice none 0 0, .slice none 0 0, .slice none 0 0] 47 (0, 0)) rfl
        clear s2
        have s4 := Own.storeTo s3 3 (.int .i64 it) (o' := .cells #[.int .i64 k, .int .i64 fm, .int .i64 vw, .int .i64 it, .int .i64 0, .int .i64 0, .slice none 0 0, .slice none 0 0, .slice none 0 0, .slice none 0 0] 47 (0, 0)) rfl
        clear s3
        have s5 := Own.storeTo s4 4 (.int .i64 sq) (o' := .cells #[.int .i64 k, .int .i64 fm, .int .i64 vw, .int .i64 it, .int .i64 sq, .int .i64 0, .slice none 0 0, .slice none 0 0, .slice none 0 0, .slice none 0 0] 47 (0, 0)) rfl
        clear s4
        have s6 := Own.storeTo s5 5 (.int .i64 rs) (o' := .cells #[.int .i64 k, .int .i64 fm, .int .i64 vw, .int .i64 it, .int .i64 sq, .int .i64 rs, .slice none 0 0, .slice none 0 0, .slice none 0 0, .slice none 0 0] 47 (0, 0)) rfl
        clear s5
        have s7 := Own.storeTo s6 6 (.slice a6 l6.length c6) (o' := .cells #[.int .i64 k, .int .i64 fm, .int .i64 vw, .int .i64 it, .int .i64 sq, .int .i64 rs, .slice a6 l6.length c6, .slice none 0 0, .slice none 0 0, .slice none 0 0] 47 (0, 0)) rfl
        clear s6
        have s8 := Own.storeTo s7 7 (.slice a7 l7.length c7) (o' := .cells #[.int .i64 k, .int .i64 fm, .int .i64 vw, .int .i64 it, .int .i64 sq, .int .i64 rs, .slice a6 l6.length c6, .slice a7 l7.length c7, .slice none 0 0, .slice none 0 0] 47 (0, 0)) rfl
        clear s7
        have s9 := Own.storeTo s8 8 (.slice a8 l8.length c8) (o' := .cells #[.int .i64 k, .int .i64 fm, .int .i64 vw, .int .i64 it, .int .i64 sq, .int .i64 rs, .slice a6 l6.length c6, .slice a7 l7.length c7, .slice a8 l8.length c8, .slice none 0 0] 47 (0, 0)) rfl
        clear s8
        have s10 := Own.storeTo s9 9 (.slice a9 l9.length c9) (o' := .cells #[.int .i64 k, .int .i64 fm, .int .i64 vw, .int .i64 it, .int .i64 sq, .int .i64 rs, .slice a6 l6.length c6, .slice a7 l7.length c7, .slice a8 l8.length c8, .slice a9 l9.length c9] 47 (0, 0)) rfl
        clear s9
        have H3 := Lib.hid s10
        clear s10
        clear ho2 b0
        go_wp2_with fail
        generalize World.setCell _ _ _ = y at *
        clear x0 z0 x1 z1 x2 z2 x3 z3 x4 z4 x5 z5 x6 z6 x7 z7 x8 z8 x9 z9
        have hfb := HMO.out.f0
        have hfc := HMO.out.f1
        simp only [Mm.ms] at hfb hfc
        have HFO := Lib.hid (form_any f cl _ y.drew hf1 hf2 hc1 hc2 (by show (-9223372036854775000 : Int) ≤ fm; omega) (by show fm ≤ (9223372036854775000 : Int); omega) (mm_at (ss := ss) H3.out.drew.drop HMO.out))
        generalize formP f cl _ = r at *
        have b0 := H3.out.blkAt 0 rfl
        have x0 : y.cell? ⟨W.heap.size, 0, none⟩ = some (.int .i64 k) := cell_blk b0 0 rfl
        have x1 : y.cell? ⟨W.heap.size, 1, none⟩ = some (.int .i64 fm) := cell_blk b0 1 rfl
        have x2 : y.cell? ⟨W.heap.size, 2, none⟩ = some (.int .i64 vw) := cell_blk b0 2 rfl
        have x3 : y.cell? ⟨W.heap.size, 3, none⟩ = some (.int .i64 it) := cell_blk b0 3 rfl
        have x4 : y.cell? ⟨W.heap.size, 4, none⟩ = some (.int .i64 sq) := cell_blk b0 4 rfl
        have x5 : y.cell? ⟨W.heap.size, 5, none⟩ = some (.int .i64 rs) := cell_blk b0 5 rfl
        have x6 : y.cell? ⟨W.heap.size, 6, none⟩ = some (.slice a6 l6.length c6) := cell_blk b0 6 rfl
        have x7 : y.cell? ⟨W.heap.size, 7, none⟩ = some (.slice a7 l7.length c7) := cell_blk b0 7 rfl
        have x8 : y.cell? ⟨W.heap.size, 8, none⟩ = some (.slice a8 l8.length c8) := cell_blk b0 8 rfl
        have x9 : y.cell? ⟨W.heap.size, 9, none⟩ = some (.slice a9 l9.length c9) := cell_blk b0 9 rfl
        go_upto_region 7 with fail
        refine Held.wp_held2 [(W.heap.size, 0, [.int .i64 k, .int .i64 fm, .int .i64 vw, .int .i64 it, .int .i64 sq, .int .i64 rs, .slice a6 l6.length c6, .slice a7 l7.length c7, .slice a8 l8.length c8, .slice a9 l9.length c9]), (W.heap.size, 1, [.int .i64 fm])] [(3, 0), (12, 1)] [17] [(7, true), (11, false)] (by kernel_rfl) (by kernel_rfl) ⟨⟨x0, x1, x2, x3, x4, x5, x6, x7, x8, x9, trivial⟩, ⟨x1, trivial⟩, trivial⟩ ?_
        simp only [Held.cutAt, Held.walk, List.take_succ_cons, List.take_zero, List.drop_succ_cons, List.drop_zero]
        go_wp2_with fail
        refine HFO.out.mono ?_
        rintro e w3 ⟨rfl, hu⟩
        have H4 := Lib.hid (H3.out.drew.upd0 hu)
        clear hu HFO b0 x0 x1 x2 x3 x4 x5 x6 x7 x8 x9
        have b0 := H4.out.blkAt 0 rfl
        have x0 : w3.cell? ⟨W.heap.size, 0, none⟩ = some (.int .i64 k) := cell_blk b0 0 rfl
        have x1 : w3.cell? ⟨W.heap.size, 1, none⟩ = some (.int .i64 fm) := cell_blk b0 1 rfl
        have x2 : w3.cell? ⟨W.heap.size, 2, none⟩ = some (.int .i64 vw) := cell_blk b0 2 rfl
        have x3 : w3.cell? ⟨W.heap.size, 3, none⟩ = some (.int .i64 it) := cell_blk b0 3 rfl
        have x4 : w3.cell? ⟨W.heap.size, 4, none⟩ = some (.int .i64 sq) := cell_blk b0 4 rfl
        have x5 : w3.cell? ⟨W.heap.size, 5, none⟩ = some (.int .i64 rs) := cell_blk b0 5 rfl
        have x6 : w3.cell? ⟨W.heap.size, 6, none⟩ = some (.slice a6 l6.length c6) := cell_blk b0 6 rfl
        have x7 : w3.cell? ⟨W.heap.size, 7, none⟩ = some (.slice a7 l7.length c7) := cell_blk b0 7 rfl
        have x8 : w3.cell? ⟨W.heap.size, 8, none⟩ = some (.slice a8 l8.length c8) := cell_blk b0 8 rfl
        have x9 : w3.cell? ⟨W.heap.size, 9, none⟩ = some (.slice a9 l9.length c9) := cell_blk b0 9 rfl
        go_wp2_with fail
        refine ⟨⟨⟨x0, x1, x2, x3, x4, x5, x6, x7, x8, x9, trivial⟩, ⟨x1, trivial⟩, trivial⟩, ?_⟩
        cases r with
        | false =>
          simp only [Bool.false_and, Bool.false_eq_true, if_false] at HO
          go_wp2_with fail
          refine ⟨trivial, ?_⟩
          go_wp2_with fail
          refine ⟨trivial, by rfl, ⟨.inr ⟨⟨rfl, .inr ⟨by kernel_rfl, by kernel_rfl⟩⟩, trivial⟩, .inl ⟨rfl, rfl⟩, trivial⟩, ?_⟩
          clear b0 x0 x1 x2 x3 x4 x5 x6 x7 x8 x9
          have b0 := H4.out.blkAt 0 rfl
          have x0 : w3.cell? ⟨W.heap.size, 0, none⟩ = some (.int .i64 k) := cell_blk b0 0 rfl
          have z0 := block_frozen b0 0
          have x1 : w3.cell? ⟨W.heap.size, 1, none⟩ = some (.int .i64 fm) := cell_blk b0 1 rfl
          have z1 := block_frozen b0 1
          have x2 : w3.cell? ⟨W.heap.size, 2, none⟩ = some (.int .i64 vw) := cell_blk b0 2 rfl
          have z2 := block_frozen b0 2
          have x3 : w3.cell? ⟨W.heap.size, 3, none⟩ = some (.int .i64 it) := cell_blk b0 3 rfl
          have z3 := block_frozen b0 3
          have x4 : w3.cell? ⟨W.heap.size, 4, none⟩ = some (.int .i64 sq) := cell_blk b0 4 rfl
          have z4 := block_frozen b0 4
          have x5 : w3.cell? ⟨W.heap.size, 5, none⟩ = some (.int .i64 rs) := cell_blk b0 5 rfl
          have z5 := block_frozen b0 5
          have x6 : w3.cell? ⟨W.heap.size, 6, none⟩ = some (.slice a6 l6.length c6) := cell_blk b0 6 rfl
          have z6 := block_frozen b0 6
          have x7 : w3.cell? ⟨W.heap.size, 7, none⟩ = some (.slice a7 l7.length c7) := cell_blk b0 7 rfl
          have z7 := block_frozen b0 7
          have x8 : w3.cell? ⟨W.heap.size, 8, none⟩ = some (.slice a8 l8.length c8) := cell_blk b0 8 rfl
          have z8 := block_frozen b0 8
          have x9 : w3.cell? ⟨W.heap.size, 9, none⟩ = some (.slice a9 l9.length c9) := cell_blk b0 9 rfl
          have z9 := block_frozen b0 9
          have s0 := H4.out
          have s1 := Own.storeTo s0 0 (.int .i64 0) (o' := .cells #[.int .i64 0, .int .i64 fm, .int .i64 vw, .int .i64 it, .int .i64 sq, .int .i64 rs, .slice a6 l6.length c6, .slice a7 l7.length c7, .slice a8 l8.length c8, .slice a9 l9.length c9] 47 (0, 0)) rfl
          clear s0
          have s2 := Own.storeTo s1 1 (.int .i64 0) (o' := .cells #[.int .i64 0, .int .i64 0, .int .i64 vw, .int .i64 it, .int .i64 sq, .int .i64 rs, .slice a6 l6.length c6, .slice a7 l7.length c7, .slice a8 l8.length c8, .slice a9 l9.length c9] 47 (0, 0)) rfl
          clear s1
          have s3 := Own.storeTo s2 2 (.int .i64 0) (o' := .cells #[.int .i64 0, .int .i64 0, .int .i64 0, .int .i64 it, .int .i64 sq, .int .i64 rs, .slice a6 l6.length c6, .slice a7 l7.length c7, .slice a8 l8.length c8, .slice a9 l9.length c9] 47 (0, 0)) rfl
          clear s2
          have s4 := Own.storeTo s3 3 (.int .i64 0) (o' := .cells #[.int .i64 0, .int .i64 0, .int .i64 0, .int .i64 0, .int .i64 sq, .int .i64 rs, .slice a6 l6.length c6, .slice a7 l7.length c7, .slice a8 l8.length c8, .slice a9 l9.length c9] 47 (0, 0)) rfl
          clear s3
          have s5 := Own.storeTo s4 4 (.int .i64 0) (o' := .cells #[.int .i64 0, .int .i64 0, .int .i64 0, .int .i64 0, .int .i64 0, .int .i64 rs, .slice a6 l6.length c6, .slice a7 l7.length c7, .slice a8 l8.length c8, .slice a9 l9.length c9] 47 (0, 0)) rfl
          clear s4
          have s6 := Own.storeTo s5 5 (.int .i64 0) (o' := .cells #[.int .i64 0, .int .i64 0, .int .i64 0, .int .i64 0, .int .i64 0, .int .i64 0, .slice a6 l6.length c6, .slice a7 l7.length c7, .slice a8 l8.length c8, .slice a9 l9.length c9] 47 (0, 0)) rfl
          clear s5
          have s7 := Own.storeTo s6 6 (.slice none 0 0) (o' := .cells #[.int .i64 0, .int .i64 0, .int .i64 0, .int .i64 0, .int .i64 0, .int .i64 0, .slice none 0 0, .slice a7 l7.length c7, .slice a8 l8.length c8, .slice a9 l9.length c9] 47 (0, 0)) rfl
          clear s6
          have s8 := Own.storeTo s7 7 (.slice none 0 0) (o' := .cells #[.int .i64 0, .int .i64 0, .int .i64 0, .int .i64 0, .int .i64 0, .int .i64 0, .slice none 0 0, .slice none 0 0, .slice a8 l8.length c8, .slice a9 l9.length c9] 47 (0, 0)) rfl
          clear s7
          have s9 := Own.storeTo s8 8 (.slice none 0 0) (o' := .cells #[.int .i64 0, .int .i64 0, .int .i64 0, .int .i64 0, .int .i64 0, .int .i64 0, .slice none 0 0, .slice none 0 0, .slice none 0 0, .slice a9 l9.length c9] 47 (0, 0)) rfl
          clear s8
          have s10 := Own.storeTo s9 9 (.slice none 0 0) (o' := .cells #[.int .i64 0, .int .i64 0, .int .i64 0, .int .i64 0, .int .i64 0, .int .i64 0, .slice none 0 0, .slice none 0 0, .slice none 0 0, .slice none 0 0] 47 (0, 0)) rfl
          clear s9
          have HR := Lib.hid s10
          clear s10
          go_wp2_with fail
          generalize World.setCell _ _ _ = y2 at *
          have f0 : y2.cell? ⟨W.heap.size, 0, none⟩ = some (.int .i64 0) := cell_blk (HR.out.blkAt 0 rfl) 0 rfl
          have f1 : y2.cell? ⟨W.heap.size, 1, none⟩ = some (.int .i64 0) := cell_blk (HR.out.blkAt 0 rfl) 1 rfl
          have f2 : y2.cell? ⟨W.heap.size, 2, none⟩ = some (.int .i64 0) := cell_blk (HR.out.blkAt 0 rfl) 2 rfl
          have f3 : y2.cell? ⟨W.heap.size, 3, none⟩ = some (.int .i64 0) := cell_blk (HR.out.blkAt 0 rfl) 3 rfl
          have f4 : y2.cell? ⟨W.heap.size, 4, none⟩ = some (.int .i64 0) := cell_blk (HR.out.blkAt 0 rfl) 4 rfl
          have f5 : y2.cell? ⟨W.heap.size, 5, none⟩ = some (.int .i64 0) := cell_blk (HR.out.blkAt 0 rfl) 5 rfl
          have f6 : y2.cell? ⟨W.heap.size, 6, none⟩ = some (.slice none 0 0) := cell_blk (HR.out.blkAt 0 rfl) 6 rfl
          have f7 : y2.cell? ⟨W.heap.size, 7, none⟩ = some (.slice none 0 0) := cell_blk (HR.out.blkAt 0 rfl) 7 rfl
          have f8 : y2.cell? ⟨W.heap.size, 8, none⟩ = some (.slice none 0 0) := cell_blk (HR.out.blkAt 0 rfl) 8 rfl
          have f9 : y2.cell? ⟨W.heap.size, 9, none⟩ = some (.slice none 0 0) := cell_blk (HR.out.blkAt 0 rfl) 9 rfl
          exact bodyPost_ret (v := .tuple #[.agg #[.int .i64 0, .int .i64 0, .int .i64 0, .int .i64 0, .int .i64 0, .int .i64 0, .slice none 0 0, .slice none 0 0, .slice none 0 0, .slice none 0 0], .int .i64 0, .int .i64 2]) (by simp [results, Tryz.results27, go_sem, f0, f1, f2, f3, f4, f5, f6, f7, f8, f9]) rfl (by rw [HO.out]; exact ⟨rfl, HR.out.drop.drop.drop.drop.drop.drop.drop⟩)
        | true =>
          simp only [Bool.true_and] at HO
          have hsk : SOk (fm, bs.drop cap) := ⟨by show _ ≤ fm; omega, by show fm ≤ _; omega, HDL.out, HDN.out⟩
          have HCK := Lib.hid (check_any (sl := (v : Int)) (nt_in H4.out hn (by simp +contextual)) hl0 hsk (HBY.out _ _ H4.out (by simp +contextual)))
          rw [show (Mm.ms ⟨k, fm, vw, it, sq, rs, .slice a6 l6.length c6, l6, .slice a7 l7.length c7, l7, .slice a8 l8.length c8, l8, .slice a9 l9.length c9, l9⟩).fm = fm from rfl] at HO
          generalize (decide ((fm, bs.drop cap) ∈ l) && (findN l fm (bs.drop cap) == (v : Int))) = q at *
          go_wp2_with fail
          refine HCK.out.mono ?_
          rintro e w4 ⟨rfl, hu⟩
          have H5 := Lib.hid (H4.out.upd0 hu)
          clear hu HCK
          cases q with
          | false =>
            simp only [Bool.false_eq_true, if_false] at HO
            go_wp2_with fail
            refine ⟨trivial, ?_⟩
            go_wp2_with fail
            refine ⟨trivial, by rfl, ⟨.inr ⟨⟨rfl, .inr ⟨by kernel_rfl, by kernel_rfl⟩⟩, trivial⟩, .inr ⟨⟨rfl, .inl ⟨by kernel_rfl, rfl⟩⟩, trivial⟩, trivial⟩, ?_⟩
            clear b0 x0 x1 x2 x3 x4 x5 x6 x7 x8 x9
            have b0 := H5.out.blkAt 0 rfl
            have x0 : w4.cell? ⟨W.heap.size, 0, none⟩ = some (.int .i64 k) := cell_blk b0 0 rfl
            have z0 := block_frozen b0 0
            have x1 : w4.cell? ⟨W.heap.size, 1, none⟩ = some (.int .i64 fm) := cell_blk b0 1 rfl
            have z1 := block_frozen b0 1
            have x2 : w4.cell? ⟨W.heap.size, 2, none⟩ = some (.int .i64 vw) := cell_blk b0 2 rfl
            have z2 := block_frozen b0 2
            have x3 : w4.cell? ⟨W.heap.size, 3, none⟩ = some (.int .i64 it) := cell_blk b0 3 rfl
            have z3 := block_frozen b0 3
            have x4 : w4.cell? ⟨W.heap.size, 4, none⟩ = some (.int .i64 sq) := cell_blk b0 4 rfl
            have z4 := block_frozen b0 4
            have x5 : w4.cell? ⟨W.heap.size, 5, none⟩ = some (.int .i64 rs) := cell_blk b0 5 rfl
            have z5 := block_frozen b0 5
            have x6 : w4.cell? ⟨W.heap.size, 6, none⟩ = some (.slice a6 l6.length c6) := cell_blk b0 6 rfl
            have z6 := block_frozen b0 6
            have x7 : w4.cell? ⟨W.heap.size, 7, none⟩ = some (.slice a7 l7.length c7) := cell_blk b0 7 rfl
            have z7 := block_frozen b0 7
            have x8 : w4.cell? ⟨W.heap.size, 8, none⟩ = some (.slice a8 l8.length c8) := cell_blk b0 8 rfl
            have z8 := block_frozen b0 8
            have x9 : w4.cell? ⟨W.heap.size, 9, none⟩ = some (.slice a9 l9.length c9) := cell_blk b0 9 rfl
            have z9 := block_frozen b0 9
            have s0 := H5.out
            have s1 := Own.storeTo s0 0 (.int .i64 0) (o' := .cells #[.int .i64 0, .int .i64 fm, .int .i64 vw, .int .i64 it, .int .i64 sq, .int .i64 rs, .slice a6 l6.length c6, .slice a7 l7.length c7, .slice a8 l8.length c8, .slice a9 l9.length c9] 47 (0, 0)) rfl
            clear s0
            have s2 := Own.storeTo s1 1 (.int .i64 0) (o' := .cells #[.int .i64 0, .int .i64 0, .int .i64 vw, .int .i64 it, .int .i64 sq, .int .i64 rs, .slice a6 l6.length c6, .slice a7 l7.length c7, .slice a8 l8.length c8, .slice a9 l9.length c9] 47 (0, 0)) rfl
            clear s1
            have s3 := Own.storeTo s2 2 (.int .i64 0) (o' := .cells #[.int .i64 0, .int .i64 0, .int .i64 0, .int .i64 it, .int .i64 sq, .int .i64 rs, .slice a6 l6.length c6, .slice a7 l7.length c7, .slice a8 l8.length c8, .slice a9 l9.length c9] 47 (0, 0)) rfl
            clear s2
            have s4 := Own.storeTo s3 3 (.int .i64 0) (o' := .cells #[.int .i64 0, .int .i64 0, .int .i64 0, .int .i64 0, .int .i64 sq, .int .i64 rs, .slice a6 l6.length c6, .slice a7 l7.length c7, .slice a8 l8.length c8, .slice a9 l9.length c9] 47 (0, 0)) rfl
            clear s3
            have s5 := Own.storeTo s4 4 (.int .i64 0) (o' := .cells #[.int .i64 0, .int .i64 0, .int .i64 0, .int .i64 0, .int .i64 0, .int .i64 rs, .slice a6 l6.length c6, .slice a7 l7.length c7, .slice a8 l8.length c8, .slice a9 l9.length c9] 47 (0, 0)) rfl
            clear s4
            have s6 := Own.storeTo s5 5 (.int .i64 0) (o' := .cells #[.int .i64 0, .int .i64 0, .int .i64 0, .int .i64 0, .int .i64 0, .int .i64 0, .slice a6 l6.length c6, .slice a7 l7.length c7, .slice a8 l8.length c8, .slice a9 l9.length c9] 47 (0, 0)) rfl
            clear s5
            have s7 := Own.storeTo s6 6 (.slice none 0 0) (o' := .cells #[.int .i64 0, .int .i64 0, .int .i64 0, .int .i64 0, .int .i64 0, .int .i64 0, .slice none 0 0, .slice a7 l7.length c7, .slice a8 l8.length c8, .slice a9 l9.length c9] 47 (0, 0)) rfl
            clear s6
            have s8 := Own.storeTo s7 7 (.slice none 0 0) (o' := .cells #[.int .i64 0, .int .i64 0, .int .i64 0, .int .i64 0, .int .i64 0, .int .i64 0, .slice none 0 0, .slice none 0 0, .slice a8 l8.length c8, .slice a9 l9.length c9] 47 (0, 0)) rfl
            clear s7
            have s9 := Own.storeTo s8 8 (.slice none 0 0) (o' := .cells #[.int .i64 0, .int .i64 0, .int .i64 0, .int .i64 0, .int .i64 0, .int .i64 0, .slice none 0 0, .slice none 0 0, .slice none 0 0, .slice a9 l9.length c9] 47 (0, 0)) rfl
            clear s8
            have s10 := Own.storeTo s9 9 (.slice none 0 0) (o' := .cells #[.int .i64 0, .int .i64 0, .int .i64 0, .int .i64 0, .int .i64 0, .int .i64 0, .slice none 0 0, .slice none 0 0, .slice none 0 0, .slice none 0 0] 47 (0, 0)) rfl
            clear s9
            have HR := Lib.hid s10
            clear s10
            go_wp2_with fail
            generalize World.setCell _ _ _ = y2 at *
            have f0 : y2.cell? ⟨W.heap.size, 0, none⟩ = some (.int .i64 0) := cell_blk (HR.out.blkAt 0 rfl) 0 rfl
            have f1 : y2.cell? ⟨W.heap.size, 1, none⟩ = some (.int .i64 0) := cell_blk (HR.out.blkAt 0 rfl) 1 rfl
            have f2 : y2.cell? ⟨W.heap.size, 2, none⟩ = some (.int .i64 0) := cell_blk (HR.out.blkAt 0 rfl) 2 rfl
            have f3 : y2.cell? ⟨W.heap.size, 3, none⟩ = some (.int .i64 0) := cell_blk (HR.out.blkAt 0 rfl) 3 rfl
            have f4 : y2.cell? ⟨W.heap.size, 4, none⟩ = some (.int .i64 0) := cell_blk (HR.out.blkAt 0 rfl) 4 rfl
            have f5 : y2.cell? ⟨W.heap.size, 5, none⟩ = some (.int .i64 0) := cell_blk (HR.out.blkAt 0 rfl) 5 rfl
            have f6 : y2.cell? ⟨W.heap.size, 6, none⟩ = some (.slice none 0 0) := cell_blk (HR.out.blkAt 0 rfl) 6 rfl
            have f7 : y2.cell? ⟨W.heap.size, 7, none⟩ = some (.slice none 0 0) := cell_blk (HR.out.blkAt 0 rfl) 7 rfl
            have f8 : y2.cell? ⟨W.heap.size, 8, none⟩ = some (.slice none 0 0) := cell_blk (HR.out.blkAt 0 rfl) 8 rfl
            have f9 : y2.cell? ⟨W.heap.size, 9, none⟩ = some (.slice none 0 0) := cell_blk (HR.out.blkAt 0 rfl) 9 rfl
            exact bodyPost_ret (v := .tuple #[.agg #[.int .i64 0, .int .i64 0, .int .i64 0, .int .i64 0, .int .i64 0, .int .i64 0, .slice none 0 0, .slice none 0 0, .slice none 0 0, .slice none 0 0], .int .i64 0, .int .i64 2]) (by simp [results, Tryz.results27, go_sem, f0, f1, f2, f3, f4, f5, f6, f7, f8, f9]) rfl (by rw [HO.out]; exact ⟨rfl, HR.out.drop.drop.drop.drop.drop.drop.drop⟩)
          | true =>
            simp only [if_true] at HO
            go_wp2_with fail
            refine ⟨trivial, ?_⟩
            go_wp2_with fail
            refine ⟨trivial, by rfl, ⟨.inr ⟨⟨rfl, .inr ⟨by kernel_rfl, by kernel_rfl⟩⟩, trivial⟩, .inr ⟨⟨rfl, .inl ⟨by kernel_rfl, rfl⟩⟩, trivial⟩, trivial⟩, ?_⟩
            clear b0 x0 x1 x2 x3 x4 x5 x6 x7 x8 x9
            have b0 := H5.out.blkAt 0 rfl
            have x0 : w4.cell? ⟨W.heap.size, 0, none⟩ = some (.int .i64 k) := cell_blk b0 0 rfl
            have z0 := block_frozen b0 0
            have x1 : w4.cell? ⟨W.heap.size, 1, none⟩ = some (.int .i64 fm) := cell_blk b0 1 rfl
            have z1 := block_frozen b0 1
            have x2 : w4.cell? ⟨W.heap.size, 2, none⟩ = some (.int .i64 vw) := cell_blk b0 2 rfl
            have z2 := block_frozen b0 2
            have x3 : w4.cell? ⟨W.heap.size, 3, none⟩ = some (.int .i64 it) := cell_blk b0 3 rfl
            have z3 := block_frozen b0 3
            have x4 : w4.cell? ⟨W.heap.size, 4, none⟩ = some (.int .i64 sq) := cell_blk b0 4 rfl
            have z4 := block_frozen b0 4
            have x5 : w4.cell? ⟨W.heap.size, 5, none⟩ = some (.int .i64 rs) := cell_blk b0 5 rfl
            have z5 := block_frozen b0 5
            have x6 : w4.cell? ⟨W.heap.size, 6, none⟩ = some (.slice a6 l6.length c6) := cell_blk b0 6 rfl
            have z6 := block_frozen b0 6
            have x7 : w4.cell? ⟨W.heap.size, 7, none⟩ = some (.slice a7 l7.length c7) := cell_blk b0 7 rfl
            have z7 := block_frozen b0 7
            have x8 : w4.cell? ⟨W.heap.size, 8, none⟩ = some (.slice a8 l8.length c8) := cell_blk b0 8 rfl
            have z8 := block_frozen b0 8
            have x9 : w4.cell? ⟨W.heap.size, 9, none⟩ = some (.slice a9 l9.length c9) := cell_blk b0 9 rfl
            have z9 := block_frozen b0 9
            have s0 := H5.out
            have s1 := Own.storeTo s0 0 (.int .i64 k) (o' := .cells #[.int .i64 k, .int .i64 fm, .int .i64 vw, .int .i64 it, .int .i64 sq, .int .i64 rs, .slice a6 l6.length c6, .slice a7 l7.length c7, .slice a8 l8.length c8, .slice a9 l9.length c9] 47 (0, 0)) rfl
            clear s0
            have s2 := Own.storeTo s1 1 (.int .i64 fm) (o' := .cells #[.int .i64 k, .int .i64 fm, .int .i64 vw, .int .i64 it, .int .i64 sq, .int .i64 rs, .slice a6 l6.length c6, .slice a7 l7.length c7, .slice a8 l8.length c8, .slice a9 l9.length c9] 47 (0, 0)) rfl
            clear s1
            have s3 := Own.storeTo s2 2 (.int .i64 vw) (o' := .cells #[.int .i64 k, .int .i64 fm, .int .i64 vw, .int .i64 it, .int .i64 sq, .int .i64 rs, .slice a6 l6.length c6, .slice a7 l7.length c7, .slice a8 l8.length c8, .slice a9 l9.length c9] 47 (0, 0)) rfl
            clear s2
            have s4 := Own.storeTo s3 3 (.int .i64 it) (o' := .cells #[.int .i64 k, .int .i64 fm, .int .i64 vw, .int .i64 it, .int .i64 sq, .int .i64 rs, .slice a6 l6.length c6, .slice a7 l7.length c7, .slice a8 l8.length c8, .slice a9 l9.length c9] 47 (0, 0)) rfl
            clear s3
            have s5 := Own.storeTo s4 4 (.int .i64 sq) (o' := .cells #[.int .i64 k, .int .i64 fm, .int .i64 vw, .int .i64 it, .int .i64 sq, .int .i64 rs, .slice a6 l6.length c6, .slice a7 l7.length c7, .slice a8 l8.length c8, .slice a9 l9.length c9] 47 (0, 0)) rfl
            clear s4
            have s6 := Own.storeTo s5 5 (.int .i64 rs) (o' := .cells #[.int .i64 k, .int .i64 fm, .int .i64 vw, .int .i64 it, .int .i64 sq, .int .i64 rs, .slice a6 l6.length c6, .slice a7 l7.length c7, .slice a8 l8.length c8, .slice a9 l9.length c9] 47 (0, 0)) rfl
            clear s5
            have s7 := Own.storeTo s6 6 (.slice a6 l6.length c6) (o' := .cells #[.int .i64 k, .int .i64 fm, .int .i64 vw, .int .i64 it, .int .i64 sq, .int .i64 rs, .slice a6 l6.length c6, .slice a7 l7.length c7, .slice a8 l8.length c8, .slice a9 l9.length c9] 47 (0, 0)) rfl
            clear s6
            have s8 := Own.storeTo s7 7 (.slice a7 l7.length c7) (o' := .cells #[.int .i64 k, .int .i64 fm, .int .i64 vw, .int .i64 it, .int .i64 sq, .int .i64 rs, .slice a6 l6.length c6, .slice a7 l7.length c7, .slice a8 l8.length c8, .slice a9 l9.length c9] 47 (0, 0)) rfl
            clear s7
            have s9 := Own.storeTo s8 8 (.slice a8 l8.length c8) (o' := .cells #[.int .i64 k, .int .i64 fm, .int .i64 vw, .int .i64 it, .int .i64 sq, .int .i64 rs, .slice a6 l6.length c6, .slice a7 l7.length c7, .slice a8 l8.length c8, .slice a9 l9.length c9] 47 (0, 0)) rfl
            clear s8
            have s10 := Own.storeTo s9 9 (.slice a9 l9.length c9) (o' := .cells #[.int .i64 k, .int .i64 fm, .int .i64 vw, .int .i64 it, .int .i64 sq, .int .i64 rs, .slice a6 l6.length c6, .slice a7 l7.length c7, .slice a8 l8.length c8, .slice a9 l9.length c9] 47 (0, 0)) rfl
            clear s9
            have HR := Lib.hid s10
            clear s10
            go_wp2_with fail
            generalize World.setCell _ _ _ = y2 at *
            have f0 : y2.cell? ⟨W.heap.size, 0, none⟩ = some (.int .i64 k) := cell_blk (HR.out.blkAt 0 rfl) 0 rfl
            have f1 : y2.cell? ⟨W.heap.size, 1, none⟩ = some (.int .i64 fm) := cell_blk (HR.out.blkAt 0 rfl) 1 rfl
            have f2 : y2.cell? ⟨W.heap.size, 2, none⟩ = some (.int .i64 vw) := cell_blk (HR.out.blkAt 0 rfl) 2 rfl
            have f3 : y2.cell? ⟨W.heap.size, 3, none⟩ = some (.int .i64 it) := cell_blk (HR.out.blkAt 0 rfl) 3 rfl
            have f4 : y2.cell? ⟨W.heap.size, 4, none⟩ = some (.int .i64 sq) := cell_blk (HR.out.blkAt 0 rfl) 4 rfl
            have f5 : y2.cell? ⟨W.heap.size, 5, none⟩ = some (.int .i64 rs) := cell_blk (HR.out.blkAt 0 rfl) 5 rfl
            have f6 : y2.cell? ⟨W.heap.size, 6, none⟩ = some (.slice a6 l6.length c6) := cell_blk (HR.out.blkAt 0 rfl) 6 rfl
            have f7 : y2.cell? ⟨W.heap.size, 7, none⟩ = some (.slice a7 l7.length c7) := cell_blk (HR.out.blkAt 0 rfl) 7 rfl
            have f8 : y2.cell? ⟨W.heap.size, 8, none⟩ = some (.slice a8 l8.length c8) := cell_blk (HR.out.blkAt 0 rfl) 8 rfl
            have f9 : y2.cell? ⟨W.heap.size, 9, none⟩ = some (.slice a9 l9.length c9) := cell_blk (HR.out.blkAt 0 rfl) 9 rfl
            exact bodyPost_ret (v := .tuple #[.agg #[.int .i64 k, .int .i64 fm, .int .i64 vw, .int .i64 it, .int .i64 sq, .int .i64 rs, .slice a6 l6.length c6, .slice a7 l7.length c7, .slice a8 l8.length c8, .slice a9 l9.length c9], .int .i64 v, .int .i64 0]) (by simp [results, Tryz.results27, go_sem, f0, f1, f2, f3, f4, f5, f6, f7, f8, f9]) rfl (by rw [HO.out]; exact ⟨_, rfl, rfl, HMO.out, HR.out.drop⟩)
    ·
      have HBY : Hid (∀ w rs, Own B w0 w rs → (∀ r ∈ ss, r ∈ rs) → Byt w (.slice (ao.map fun x => x.add a) (bs.length - a) (cap - a)) (bs.drop a)) := Lib.hid (fun w rs ho hs => bytd (HB.out.b ho hs) (by omega))
      have hfm := byt_form (HBY.out _ _ H0.out (by simp +contextual))
      have HPA := Lib.hid (parse_any H0.out ⟨fun ho hs => HBY.out _ _ ho (fun r hr => hs r (by simp [hr])), hfm, by rw [List.length_drop]; omega⟩)
      have HOK : Hid (∀ m, parseP (bs.drop a) = some m → MsOk m) := Lib.hid (fun m h => parse_ok h)
      have HDL : Hid (∀ c ∈ bs.drop a, c < 256) := Lib.hid ((HBY.out _ _ H0.out (by simp +contextual)).2)
      have HDN : Hid ((bs.drop a).length ≤ 100000) := Lib.hid (by rw [List.length_drop]; omega)
      clear hfm
      generalize parseP (bs.drop a) = po at *
      go_wp2_with fail
      refine HPA.out.mono ?_
      intro e w2 hq
      clear HPA
      clear b0 x0 z0 x1 z1 x2 z2 x3 z3 x4 z4 x5 z5 x6 z6 x7 z7 x8 z8 x9 z9
      cases po with
      | none =>
        simp only at HO
        obtain ⟨he, ho⟩ := hq
        have he : e = .returned (.tuple #[.agg #[.int .i64 0, .int .i64 0, .int .i64 0, .int .i64 0, .int .i64 0, .int .i64 0, .slice none 0 0, .slice none 0 0, .slice none 0 0, .slice none 0 0], .bool false]) := he
        subst he
        have b0 := ho.blkAt 0 rfl
        have x0 : w2.cell? ⟨W.heap.size, 0, none⟩ = some (.int .i64 0) := cell_blk b0 0 rfl
        have z0 := block_frozen b0 0
        have x1 : w2.cell? ⟨W.heap.size, 1, none⟩ = some (.int .i64 0) := cell_blk b0 1 rfl
        have z1 := block_frozen b0 1
        have x2 : w2.cell? ⟨W.heap.size, 2, none⟩ = some (.int .i64 0) := cell_blk b0 2 rfl
        have z2 := block_frozen b0 2
        have x3 : w2.cell? ⟨W.heap.size, 3, none⟩ = some (.int .i64 0) := cell_blk b0 3 rfl
        have z3 := block_frozen b0 3
        have x4 : w2.cell? ⟨W.heap.size, 4, none⟩ = some (.int .i64 0) := cell_blk b0 4 rfl
        have z4 := block_frozen b0 4
        have x5 : w2.cell? ⟨W.heap.size, 5, none⟩ = some (.int .i64 0) := cell_blk b0 5 rfl
        have z5 := block_frozen b0 5
        have x6 : w2.cell? ⟨W.heap.size, 6, none⟩ = some (.slice none 0 0) := cell_blk b0 6 rfl
        have z6 := block_frozen b0 6
        have x7 : w2.cell? ⟨W.heap.size, 7, none⟩ = some (.slice none 0 0) := cell_blk b0 7 rfl
        have z7 := block_frozen b0 7
        have x8 : w2.cell? ⟨W.heap.size, 8, none⟩ = some (.slice none 0 0) := cell_blk b0 8 rfl
        have z8 := block_frozen b0 8
        have x9 : w2.cell? ⟨W.heap.size, 9, none⟩ = some (.slice none 0 0) := cell_blk b0 9 rfl
        have z9 := block_frozen b0 9
        have s0 := ho
        have s1 := Own.storeTo s0 0 (.int .i64 0) (o' := .cells #[.int .i64 0, .int .i64 0, .int .i64 0, .int .i64 0, .int .i64 0, .int .i64 0, .slice none 0 0, .slice none 0 0, .slice none 0 0, .slice none 0 0] 47 (0, 0)) rfl
        clear s0
        have s2 := Own.storeTo s1 1 (.int .i64 0) (o' := .cells #[.int .i64 0, .int .i64 0, .int .i64 0, .int .i64 0, .int .i64 0, .int .i64 0, .slice none 0 0, .slice none 0 0, .slice none 0 0, .slice none 0 0] 47 (0, 0)) rfl
        clear s1
        have s3 := Own.storeTo s2 2 (.int .i64 0) (o' := .cells #[.int .i64 0, .int .i64 0, .int .i64 0, .int .i64 0, .int .i64 0, .int .i64 0, .slice none 0 0, .slice none 0 0, .slice none 0 0, .slice none 0 0] 47 (0, 0)) rfl
        clear s2
        have s4 := Own.storeTo s3 3 (.int .i64 0) (o' := .cells #[.int .i64 0, .int .i64 0, .int .i64 0, .int .i64 0, .int .i64 0, .int .i64 0, .slice none 0 0, .slice none 0 0, .slice none 0 0, .slice none 0 0] 47 (0, 0)) rfl
        clear s3
        have s5 := Own.storeTo s4 4 (.int .i64 0) (o' := .cells #[.int .i64 0, .int .i64 0, .int .i64 0, .int .i64 0, .int .i64 0, .int .i64 0, .slice none 0 0, .slice none 0 0, .slice none 0 0, .slice none 0 0] 47 (0, 0)) rfl
        clear s4
        have s6 := Own.storeTo s5 5 (.int .i64 0) (o' := .cells #[.int .i64 0, .int .i64 0, .int .i64 0, .int .i64 0, .int .i64 0, .int .i64 0, .slice none 0 0, .slice none 0 0, .slice none 0 0, .slice none 0 0] 47 (0, 0)) rfl
        clear s5
        have s7 := Own.storeTo s6 6 (.slice none 0 0) (o' := .cells #[.int .i64 0, .int .i64 0, .int .i64 0, .int .i64 0, .int .i64 0, .int .i64 0, .slice none 0 0, .slice none 0 0, .slice none 0 0, .slice none 0 0] 47 (0, 0)) rfl
        clear s6
        have s8 := Own.storeTo s7 7 (.slice none 0 0) (o' := .cells #[.int .i64 0, .int .i64 0, .int .i64 0, .int .i64 0, .int .i64 0, .int .i64 0, .slice none 0 0, .slice none 0 0, .slice none 0 0, .slice none 0 0] 47 (0, 0)) rfl
        clear s7
        have s9 := Own.storeTo s8 8 (.slice none 0 0) (o' := .cells #[.int .i64 0, .int .i64 0, .int .i64 0, .int .i64 0, .int .i64 0, .int .i64 0, .slice none 0 0, .slice none 0 0, .slice none 0 0, .slice none 0 0] 47 (0, 0)) rfl
        clear s8
        have s10 := Own.storeTo s9 9 (.slice none 0 0) (o' := .cells #[.int .i64 0, .int .i64 0, .int .i64 0, .int .i64 0, .int .i64 0, .int .i64 0, .slice none 0 0, .slice none 0 0, .slice none 0 0, .slice none 0 0] 47 (0, 0)) rfl
        clear s9
        have HR := Lib.hid s10
        clear s10
        clear ho b0
        go_wp2_with fail
        generalize World.setCell _ _ _ = y at *
        clear x0 z0 x1 z1 x2 z2 x3 z3 x4 z4 x5 z5 x6 z6 x7 z7 x8 z8 x9 z9
        have b0 := HR.out.blkAt 0 rfl
        have x0 : y.cell? ⟨W.heap.size, 0, none⟩ = some (.int .i64 0) := cell_blk b0 0 rfl
        have z0 := block_frozen b0 0
        have x1 : y.cell? ⟨W.heap.size, 1, none⟩ = some (.int .i64 0) := cell_blk b0 1 rfl
        have z1 := block_frozen b0 1
        have x2 : y.cell? ⟨W.heap.size, 2, none⟩ = some (.int .i64 0) := cell_blk b0 2 rfl
        have z2 := block_frozen b0 2
        have x3 : y.cell? ⟨W.heap.size, 3, none⟩ = some (.int .i64 0) := cell_blk b0 3 rfl
        have z3 := block_frozen b0 3
        have x4 : y.cell? ⟨W.heap.size, 4, none⟩ = some (.int .i64 0) := cell_blk b0 4 rfl
        have z4 := block_frozen b0 4
        have x5 : y.cell? ⟨W.heap.size, 5, none⟩ = some (.int .i64 0) := cell_blk b0 5 rfl
        have z5 := block_frozen b0 5
        have x6 : y.cell? ⟨W.heap.size, 6, none⟩ = some (.slice none 0 0) := cell_blk b0 6 rfl
        have z6 := block_frozen b0 6
        have x7 : y.cell? ⟨W.heap.size, 7, none⟩ = some (.slice none 0 0) := cell_blk b0 7 rfl
        have z7 := block_frozen b0 7
        have x8 : y.cell? ⟨W.heap.size, 8, none⟩ = some (.slice none 0 0) := cell_blk b0 8 rfl
        have z8 := block_frozen b0 8
        have x9 : y.cell? ⟨W.heap.size, 9, none⟩ = some (.slice none 0 0) := cell_blk b0 9 rfl
        have z9 := block_frozen b0 9
        go_quiet (fail)
        generalize hy1 : World.drewN y _ = y1
        have HR1 : Own B w0 y1 (blk W.heap.size (.cells #[.int .i64 0, .int .i64 0, .int .i64 0, .int .i64 0, .int .i64 0, .int .i64 0, .slice none 0 0, .slice none 0 0, .slice none 0 0, .slice none 0 0] 47 (0, 0)) :: ss) := by rw [← hy1]; exact HR.out.upd0 ((Upd.refl _ _).drewN _)
        clear hy1 HR b0 x0 z0 x1 z1 x2 z2 x3 z3 x4 z4 x5 z5 x6 z6 x7 z7 x8 z8 x9 z9
        have b0 := HR1.blkAt 0 rfl
        have x0 : y1.cell? ⟨W.heap.size, 0, none⟩ = some (.int .i64 0) := cell_blk b0 0 rfl
        have z0 := block_frozen b0 0
        have x1 : y1.cell? ⟨W.heap.size, 1, none⟩ = some (.int .i64 0) := cell_blk b0 1 rfl
        have z1 := block_frozen b0 1
        have x2 : y1.cell? ⟨W.heap.size, 2, none⟩ = some (.int .i64 0) := cell_blk b0 2 rfl
        have z2 := block_frozen b0 2
        have x3 : y1.cell? ⟨W.heap.size, 3, none⟩ = some (.int .i64 0) := cell_blk b0 3 rfl
        have z3 := block_frozen b0 3
        have x4 : y1.cell? ⟨W.heap.size, 4, none⟩ = some (.int .i64 0) := cell_blk b0 4 rfl
        have z4 := block_frozen b0 4
        have x5 : y1.cell? ⟨W.heap.size, 5, none⟩ = some (.int .i64 0) := cell_blk b0 5 rfl
        have z5 := block_frozen b0 5
        have x6 : y1.cell? ⟨W.heap.size, 6, none⟩ = some (.slice none 0 0) := cell_blk b0 6 rfl
        have z6 := block_frozen b0 6
        have x7 : y1.cell? ⟨W.heap.size, 7, none⟩ = some (.slice none 0 0) := cell_blk b0 7 rfl
        have z7 := block_frozen b0 7
        have x8 : y1.cell? ⟨W.heap.size, 8, none⟩ = some (.slice none 0 0) := cell_blk b0 8 rfl
        have z8 := block_frozen b0 8
        have x9 : y1.cell? ⟨W.heap.size, 9, none⟩ = some (.slice none 0 0) := cell_blk b0 9 rfl
        have z9 := block_frozen b0 9
        have s0 := HR1
        have s1 := Own.storeTo s0 0 (.int .i64 0) (o' := .cells #[.int .i64 0, .int .i64 0, .int .i64 0, .int .i64 0, .int .i64 0, .int .i64 0, .slice none 0 0, .slice none 0 0, .slice none 0 0, .slice none 0 0] 47 (0, 0)) rfl
        clear s0
        have s2 := Own.storeTo s1 1 (.int .i64 0) (o' := .cells #[.int .i64 0, .int .i64 0, .int .i64 0, .int .i64 0, .int .i64 0, .int .i64 0, .slice none 0 0, .slice none 0 0, .slice none 0 0, .slice none 0 0] 47 (0, 0)) rfl
        clear s1
        have s3 := Own.storeTo s2 2 (.int .i64 0) (o' := .cells #[.int .i64 0, .int .i64 0, .int .i64 0, .int .i64 0, .int .i64 0, .int .i64 0, .slice none 0 0, .slice none 0 0, .slice none 0 0, .slice none 0 0] 47 (0, 0)) rfl
        clear s2
        have s4 := Own.storeTo s3 3 (.int .i64 0) (o' := .cells #[.int .i64 0, .int .i64 0, .int .i64 0, .int .i64 0, .int .i64 0, .int .i64 0, .slice none 0 0, .slice none 0 0, .slice none 0 0, .slice none 0 0] 47 (0, 0)) rfl
        clear s3
        have s5 := Own.storeTo s4 4 (.int .i64 0) (o' := .cells #[.int .i64 0, .int .i64 0, .int .i64 0, .int .i64 0, .int .i64 0, .int .i64 0, .slice none 0 0, .slice none 0 0, .slice none 0 0, .slice none 0 0] 47 (0, 0)) rfl
        clear s4
        have s6 := Own.storeTo s5 5 (.int .i64 0) (o' := .cells #[.int .i64 0, .int .i64 0, .int .i64 0, .int .i64 0, .int .i64 0, .int .i64 0, .slice none 0 0, .slice none 0 0, .slice none 0 0, .slice none 0 0] 47 (0, 0)) rfl
        clear s5
        have s7 := Own.storeTo s6 6 (.slice none 0 0) (o' := .cells #[.int .i64 0, .int .i64 0, .int .i64 0, .int .i64 0, .int .i64 0, .int .i64 0, .slice none 0 0, .slice none 0 0, .slice none 0 0, .slice none 0 0] 47 (0, 0)) rfl
        clear s6
        have s8 := Own.storeTo s7 7 (.slice none 0 0) (o' := .cells #[.int .i64 0, .int .i64 0, .int .i64 0, .int .i64 0, .int .i64 0, .int .i64 0, .slice none 0 0, .slice none 0 0, .slice none 0 0, .slice none 0 0] 47 (0, 0)) rfl
        clear s7
        have s9 := Own.storeTo s8 8 (.slice none 0 0) (o' := .cells #[.int .i64 0, .int .i64 0, .int .i64 0, .int .i64 0, .int .i64 0, .int .i64 0, .slice none 0 0, .slice none 0 0, .slice none 0 0, .slice none 0 0] 47 (0, 0)) rfl
        clear s8
        have s10 := Own.storeTo s9 9 (.slice none 0 0) (o' := .cells #[.int .i64 0, .int .i64 0, .int .i64 0, .int .i64 0, .int .i64 0, .int .i64 0, .slice none 0 0, .slice none 0 0, .slice none 0 0, .slice none 0 0] 47 (0, 0)) rfl
        clear s9
        have HR2 := Lib.hid s10
        clear s10
        clear b0
        go_wp2_with fail
        generalize World.setCell _ _ _ = y2 at *
        have f0 : y2.cell? ⟨W.heap.size, 0, none⟩ = some (.int .i64 0) := cell_blk (HR2.out.blkAt 0 rfl) 0 rfl
        have f1 : y2.cell? ⟨W.heap.size, 1, none⟩ = some (.int .i64 0) := cell_blk (HR2.out.blkAt 0 rfl) 1 rfl
        have f2 : y2.cell? ⟨W.heap.size, 2, none⟩ = some (.int .i64 0) := cell_blk (HR2.out.blkAt 0 rfl) 2 rfl
        have f3 : y2.cell? ⟨W.heap.size, 3, none⟩ = some (.int .i64 0) := cell_blk (HR2.out.blkAt 0 rfl) 3 rfl
        have f4 : y2.cell? ⟨W.heap.size, 4, none⟩ = some (.int .i64 0) := cell_blk (HR2.out.blkAt 0 rfl) 4 rfl
        have f5 : y2.cell? ⟨W.heap.size, 5, none⟩ = some (.int .i64 0) := cell_blk (HR2.out.blkAt 0 rfl) 5 rfl
        have f6 : y2.cell? ⟨W.heap.size, 6, none⟩ = some (.slice none 0 0) := cell_blk (HR2.out.blkAt 0 rfl) 6 rfl
        have f7 : y2.cell? ⟨W.heap.size, 7, none⟩ = some (.slice none 0 0) := cell_blk (HR2.out.blkAt 0 rfl) 7 rfl
        have f8 : y2.cell? ⟨W.heap.size, 8, none⟩ = some (.slice none 0 0) := cell_blk (HR2.out.blkAt 0 rfl) 8 rfl
        have f9 : y2.cell? ⟨W.heap.size, 9, none⟩ = some (.slice none 0 0) := cell_blk (HR2.out.blkAt 0 rfl) 9 rfl
        exact bodyPost_ret (v := .tuple #[.agg #[.int .i64 0, .int .i64 0, .int .i64 0, .int .i64 0, .int .i64 0, .int .i64 0, .slice none 0 0, .slice none 0 0, .slice none 0 0, .slice none 0 0], .int .i64 0, .int .i64 2]) (by simp [results, Tryz.results27, go_sem, f0, f1, f2, f3, f4, f5, f6, f7, f8, f9]) rfl (by rw [HO.out]; exact ⟨rfl, HR2.out.drop⟩)
      | some ms =>
        obtain ⟨mm, he, rfl, ho⟩ := hq
        have HMO := Lib.hid (HOK.out _ rfl)
        have hfr := (mm_at ho HMO.out).form
        obtain ⟨k, fm, vw, it, sq, rs, vb, l6, vv, l7, vc, l8, vp, l9⟩ := mm
        obtain ⟨⟨a6, c6, e6⟩, ⟨a7, c7, e7⟩, ⟨a8, c8, e8⟩, ⟨a9, c9, e9⟩⟩ := hfr
        simp only at e6 e7 e8 e9
        subst e6 e7 e8 e9
        have he : e = .returned (.tuple #[.agg #[.int .i64 k, .int .i64 fm, .int .i64 vw, .int .i64 it, .int .i64 sq, .int .i64 rs, .slice a6 l6.length c6, .slice a7 l7.length c7, .slice a8 l8.length c8, .slice a9 l9.length c9], .bool true]) := he
        subst he
        have ho2 := ho.front 6 rfl rfl
        clear ho
        have b0 := ho2.blkAt 0 rfl
        have x0 : w2.cell? ⟨W.heap.size, 0, none⟩ = some (.int .i64 0) := cell_blk b0 0 rfl
        have z0 := block_frozen b0 0
        have x1 : w2.cell? ⟨W.heap.size, 1, none⟩ = some (.int .i64 0) := cell_blk b0 1 rfl
        have z1 := block_frozen b0 1
        have x2 : w2.cell? ⟨W.heap.size, 2, none⟩ = some (.int .i64 0) := cell_blk b0 2 rfl
        have z2 := block_frozen b0 2
        have x3 : w2.cell? ⟨W.heap.size, 3, none⟩ = some (.int .i64 0) := cell_blk b0 3 rfl
        have z3 := block_frozen b0 3
        have x4 : w2.cell? ⟨W.heap.size, 4, none⟩ = some (.int .i64 0) := cell_blk b0 4 rfl
        have z4 := block_frozen b0 4
        have x5 : w2.cell? ⟨W.heap.size, 5, none⟩ = some (.int .i64 0) := cell_blk b0 5 rfl
        have z5 := block_frozen b0 5
        have x6 : w2.cell? ⟨W.heap.size, 6, none⟩ = some (.slice none 0 0) := cell_blk b0 6 rfl
        have z6 := block_frozen b0 6
        have x7 : w2.cell? ⟨W.heap.size, 7, none⟩ = some (.slice none 0 0) := cell_blk b0 7 rfl
        have z7 := block_frozen b0 7
        have x8 : w2.cell? ⟨W.heap.size, 8, none⟩ = some (.slice none 0 0) := cell_blk b0 8 rfl
        have z8 := block_frozen b0 8
        have x9 : w2.cell? ⟨W.heap.size, 9, none⟩ = some (.slice none 0 0) := cell_blk b0 9 rfl
        have z9 := block_frozen b0 9
        have s0 := ho2
        have s1 := Own.storeTo s0 0 (.int .i64 k) (o' := .cells #[.int .i64 k, .int .i64 0, .int .i64 0, .int .i64 0, .int .i64 0, .int .i64 0, .slice none 0 0, .slice none 0 0, .slice none 0 0, .slice none 0 0] 47 (0, 0)) rfl
        clear s0
        have s2 := Own.storeTo s1 1 (.int .i64 fm) (o' := .cells #[.int .i64 k, .int .i64 fm, .int .i64 0, .int .i64 0, .int .i64 0, .int .i64 0, .slice none 0 0, .slice none 0 0, .slice none 0 0, .slice none 0 0] 47 (0, 0)) rfl
        clear s1
        have s3 := Own.storeTo s2 2 (.int .i64 vw) (o' := .cells #[.int .i64 k, .int .i64 fm, .int .i64 vw, .int .i64 0, .int .i64 0, .int .i64 0, .slice none 0 0, .slice none 0 0, .slice none 0 0, .slice none 0 0] 47 (0, 0)) rfl
        clear s2
        have s4 := Own.storeTo s3 3 (.int .i64 it) (o' := .cells #[.int .i64 k, .int .i64 fm, .int .i64 vw, .int .i64 it, .int .i64 0, .int .i64 0, .slice none 0 0, .slice none 0 0, .slice none 0 0, .slice none 0 0] 47 (0, 0)) rfl
        clear s3
        have s5 := Own.storeTo s4 4 (.int .i64 sq) (o' := .cells #[.int .i64 k, .int .i64 fm, .int .i64 vw, .int .i64 it, .int .i64 sq, .int .i64 0, .slice none 0 0, .slice none 0 0, .slice none 0 0, .slice none 0 0] 47 (0, 0)) rfl
        clear s4
        have s6 := Own.storeTo s5 5 (.int .i64 rs) (o' := .cells #[.int .i64 k, .int .i64 fm, .int .i64 vw, .int .i64 it, .int .i64 sq, .int .i64 rs, .slice none 0 0, .slice none 0 0, .slice none 0 0, .slice none 0 0] 47 (0, 0)) rfl
        clear s5
        have s7 := Own.storeTo s6 6 (.slice a6 l6.length c6) (o' := .cells #[.int .i64 k, .int .i64 fm, .int .i64 vw, .int .i64 it, .int .i64 sq, .int .i64 rs, .slice a6 l6.length c6, .slice none 0 0, .slice none 0 0, .slice none 0 0] 47 (0, 0)) rfl
        clear s6
        have s8 := Own.storeTo s7 7 (.slice a7 l7.length c7) (o' := .cells #[.int .i64 k, .int .i64 fm, .int .i64 vw, .int .i64 it, .int .i64 sq, .int .i64 rs, .slice a6 l6.length c6, .slice a7 l7.length c7, .slice none 0 0, .slice none 0 0] 47 (0, 0)) rfl
        clear s7
        have s9 := Own.storeTo s8 8 (.slice a8 l8.length c8) (o' := .cells #[.int .i64 k, .int .i64 fm, .int .i64 vw, .int .i64 it, .int .i64 sq, .int .i64 rs, .slice a6 l6.length c6, .slice a7 l7.length c7, .slice a8 l8.length c8, .slice none 0 0] 47 (0, 0)) rfl
        clear s8
        have s10 := Own.storeTo s9 9 (.slice a9 l9.length c9) (o' := .cells #[.int .i64 k, .int .i64 fm, .int .i64 vw, .int .i64 it, .int .i64 sq, .int .i64 rs, .slice a6 l6.length c6, .slice a7 l7.length c7, .slice a8 l8.length c8, .slice a9 l9.length c9] 47 (0, 0)) rfl
        clear s9
        have H3 := Lib.hid s10
        clear s10
        clear ho2 b0
        go_wp2_with fail
        generalize World.setCell _ _ _ = y at *
        clear x0 z0 x1 z1 x2 z2 x3 z3 x4 z4 x5 z5 x6 z6 x7 z7 x8 z8 x9 z9
        have hfb := HMO.out.f0
        have hfc := HMO.out.f1
        simp only [Mm.ms] at hfb hfc
        have HFO := Lib.hid (form_any f cl _ y.drew hf1 hf2 hc1 hc2 (by show (-9223372036854775000 : Int) ≤ fm; omega) (by show fm ≤ (9223372036854775000 : Int); omega) (mm_at (ss := ss) H3.out.drew.drop HMO.out))
        generalize formP f cl _ = r at *
        have b0 := H3.out.blkAt 0 rfl
        have x0 : y.cell? ⟨W.heap.size, 0, none⟩ = some (.int .i64 k) := cell_blk b0 0 rfl
        have x1 : y.cell? ⟨W.heap.size, 1, none⟩ = some (.int .i64 fm) := cell_blk b0 1 rfl
        have x2 : y.cell? ⟨W.heap.size, 2, none⟩ = some (.int .i64 vw) := cell_blk b0 2 rfl
        have x3 : y.cell? ⟨W.heap.size, 3, none⟩ = some (.int .i64 it) := cell_blk b0 3 rfl
        have x4 : y.cell? ⟨W.heap.size, 4, none⟩ = some (.int .i64 sq) := cell_blk b0 4 rfl
        have x5 : y.cell? ⟨W.heap.size, 5, none⟩ = some (.int .i64 rs) := cell_blk b0 5 rfl
        have x6 : y.cell? ⟨W.heap.size, 6, none⟩ = some (.slice a6 l6.length c6) := cell_blk b0 6 rfl
        have x7 : y.cell? ⟨W.heap.size, 7, none⟩ = some (.slice a7 l7.length c7) := cell_blk b0 7 rfl
        have x8 : y.cell? ⟨W.heap.size, 8, none⟩ = some (.slice a8 l8.length c8) := cell_blk b0 8 rfl
        have x9 : y.cell? ⟨W.heap.size, 9, none⟩ = some (.slice a9 l9.length c9) := cell_blk b0 9 rfl
        go_upto_region 7 with fail
        refine Held.wp_held2 [(W.heap.size, 0, [.int .i64 k, .int .i64 fm, .int .i64 vw, .int .i64 it, .int .i64 sq, .int .i64 rs, .slice a6 l6.length c6, .slice a7 l7.length c7, .slice a8 l8.length c8, .slice a9 l9.length c9]), (W.heap.size, 1, [.int .i64 fm])] [(3, 0), (12, 1)] [17] [(7, true), (11, false)] (by kernel_rfl) (by kernel_rfl) ⟨⟨x0, x1, x2, x3, x4, x5, x6, x7, x8, x9, trivial⟩, ⟨x1, trivial⟩, trivial⟩ ?_
        simp only [Held.cutAt, Held.walk, List.take_succ_cons, List.take_zero, List.drop_succ_cons, List.drop_zero]
        go_wp2_with fail
        refine HFO.out.mono ?_
        rintro e w3 ⟨rfl, hu⟩
        have H4 := Lib.hid (H3.out.drew.upd0 hu)
        clear hu HFO b0 x0 x1 x2 x3 x4 x5 x6 x7 x8 x9
        have b0 := H4.out.blkAt 0 rfl
        have x0 : w3.cell? ⟨W.heap.size, 0, none⟩ = some (.int .i64 k) := cell_blk b0 0 rfl
        have x1 : w3.cell? ⟨W.heap.size, 1, none⟩ = some (.int .i64 fm) := cell_blk b0 1 rfl
        have x2 : w3.cell? ⟨W.heap.size, 2, none⟩ = some (.int .i64 vw) := cell_blk b0 2 rfl
        have x3 : w3.cell? ⟨W.heap.size, 3, none⟩ = some (.int .i64 it) := cell_blk b0 3 rfl
        have x4 : w3.cell? ⟨W.heap.size, 4, none⟩ = some (.int .i64 sq) := cell_blk b0 4 rfl
        have x5 : w3.cell? ⟨W.heap.size, 5, none⟩ = some (.int .i64 rs) := cell_blk b0 5 rfl
        have x6 : w3.cell? ⟨W.heap.size, 6, none⟩ = some (.slice a6 l6.length c6) := cell_blk b0 6 rfl
        have x7 : w3.cell? ⟨W.heap.size, 7, none⟩ = some (.slice a7 l7.length c7) := cell_blk b0 7 rfl
        have x8 : w3.cell? ⟨W.heap.size, 8, none⟩ = some (.slice a8 l8.length c8) := cell_blk b0 8 rfl
        have x9 : w3.cell? ⟨W.heap.size, 9, none⟩ = some (.slice a9 l9.length c9) := cell_blk b0 9 rfl
        go_wp2_with fail
        refine ⟨⟨⟨x0, x1, x2, x3, x4, x5, x6, x7, x8, x9, trivial⟩, ⟨x1, trivial⟩, trivial⟩, ?_⟩
        cases r with
        | false =>
          simp only [Bool.false_and, Bool.false_eq_true, if_false] at HO
          go_wp2_with fail
          refine ⟨trivial, ?_⟩
          go_wp2_with fail
          refine ⟨trivial, by rfl, ⟨.inr ⟨⟨rfl, .inr ⟨by kernel_rfl, by kernel_rfl⟩⟩, trivial⟩, .inl ⟨rfl, rfl⟩, trivial⟩, ?_⟩
          clear b0 x0 x1 x2 x3 x4 x5 x6 x7 x8 x9
          have b0 := H4.out.blkAt 0 rfl
          have x0 : w3.cell? ⟨W.heap.size, 0, none⟩ = some (.int .i64 k) := cell_blk b0 0 rfl
          have z0 := block_frozen b0 0
          have x1 : w3.cell? ⟨W.heap.size, 1, none⟩ = some (.int .i64 fm) := cell_blk b0 1 rfl
          have z1 := block_frozen b0 1
          have x2 : w3.cell? ⟨W.heap.size, 2, none⟩ = some (.int .i64 vw) := cell_blk b0 2 rfl
          have z2 := block_frozen b0 2
          have x3 : w3.cell? ⟨W.heap.size, 3, none⟩ = some (.int .i64 it) := cell_blk b0 3 rfl
          have z3 := block_frozen b0 3
          have x4 : w3.cell? ⟨W.heap.size, 4, none⟩ = some (.int .i64 sq) := cell_blk b0 4 rfl
          have z4 := block_frozen b0 4
          have x5 : w3.cell? ⟨W.heap.size, 5, none⟩ = some (.int .i64 rs) := cell_blk b0 5 rfl
          have z5 := block_frozen b0 5
          have x6 : w3.cell? ⟨W.heap.size, 6, none⟩ = some (.slice a6 l6.length c6) := cell_blk b0 6 rfl
          have z6 := block_frozen b0 6
          have x7 : w3.cell? ⟨W.heap.size, 7, none⟩ = some (.slice a7 l7.length c7) := cell_blk b0 7 rfl
          have z7 := block_frozen b0 7
          have x8 : w3.cell? ⟨W.heap.size, 8, none⟩ = some (.slice a8 l8.length c8) := cell_blk b0 8 rfl
          have z8 := block_frozen b0 8
          have x9 : w3.cell? ⟨W.heap.size, 9, none⟩ = some (.slice a9 l9.length c9) := cell_blk b0 9 rfl
          have z9 := block_frozen b0 9
          have s0 := H4.out
          have s1 := Own.storeTo s0 0 (.int .i64 0) (o' := .cells #[.int .i64 0, .int .i64 fm, .int .i64 vw, .int .i64 it, .int .i64 sq, .int .i64 rs, .slice a6 l6.length c6, .slice a7 l7.length c7, .slice a8 l8.length c8, .slice a9 l9.length c9] 47 (0, 0)) rfl
          clear s0
          have s2 := Own.storeTo s1 1 (.int .i64 0) (o' := .cells #[.int .i64 0, .int .i64 0, .int .i64 vw, .int .i64 it, .int .i64 sq, .int .i64 rs, .slice a6 l6.length c6, .slice a7 l7.length c7, .slice a8 l8.length c8, .slice a9 l9.length c9] 47 (0, 0)) rfl
          clear s1
          have s3 := Own.storeTo s2 2 (.int .i64 0) (o' := .cells #[.int .i64 0, .int .i64 0, .int .i64 0, .int .i64 it, .int .i64 sq, .int .i64 rs, .slice a6 l6.length c6, .slice a7 l7.length c7, .slice a8 l8.length c8, .slice a9 l9.length c9] 47 (0, 0)) rfl
          clear s2
          have s4 := Own.storeTo s3 3 (.int .i64 0) (o' := .cells #[.int .i64 0, .int .i64 0, .int .i64 0, .int .i64 0, .int .i64 sq, .int .i64 rs, .slice a6 l6.length c6, .slice a7 l7.length c7, .slice a8 l8.length c8, .slice a9 l9.length c9] 47 (0, 0)) rfl
          clear s3
          have s5 := Own.storeTo s4 4 (.int .i64 0) (o' := .cells #[.int .i64 0, .int .i64 0, .int .i64 0, .int .i64 0, .int .i64 0, .int .i64 rs, .slice a6 l6.length c6, .slice a7 l7.length c7, .slice a8 l8.length c8, .slice a9 l9.length c9] 47 (0, 0)) rfl
          clear s4
          have s6 := Own.storeTo s5 5 (.int .i64 0) (o' := .cells #[.int .i64 0, .int .i64 0, .int .i64 0, .int .i64 0, .int .i64 0, .int .i64 0, .slice a6 l6.length c6, .slice a7 l7.length c7, .slice a8 l8.length c8, .slice a9 l9.length c9] 47 (0, 0)) rfl
          clear s5
          have s7 := Own.storeTo s6 6 (.slice none 0 0) (o' := .cells #[.int .i64 0, .int .i64 0, .int .i64 0, .int .i64 0, .int .i64 0, .int .i64 0, .slice none 0 0, .slice a7 l7.length c7, .slice a8 l8.length c8, .slice a9 l9.length c9] 47 (0, 0)) rfl
          clear s6
          have s8 := Own.storeTo s7 7 (.slice none 0 0) (o' := .cells #[.int .i64 0, .int .i64 0, .int .i64 0, .int .i64 0, .int .i64 0, .int .i64 0, .slice none 0 0, .slice none 0 0, .slice a8 l8.length c8, .slice a9 l9.length c9] 47 (0, 0)) rfl
          clear s7
          have s9 := Own.storeTo s8 8 (.slice none 0 0) (o' := .cells #[.int .i64 0, .int .i64 0, .int .i64 0, .int .i64 0, .int .i64 0, .int .i64 0, .slice none 0 0, .slice none 0 0, .slice none 0 0, .slice a9 l9.length c9] 47 (0, 0)) rfl
          clear s8
          have s10 := Own.storeTo s9 9 (.slice none 0 0) (o' := .cells #[.int .i64 0, .int .i64 0, .int .i64 0, .int .i64 0, .int .i64 0, .int .i64 0, .slice none 0 0, .slice none 0 0, .slice none 0 0, .slice none 0 0] 47 (0, 0)) rfl
          clear s9
          have HR := Lib.hid s10
          clear s10
          go_wp2_with fail
          generalize World.setCell _ _ _ = y2 at *
          have f0 : y2.cell? ⟨W.heap.size, 0, none⟩ = some (.int .i64 0) := cell_blk (HR.out.blkAt 0 rfl) 0 rfl
          have f1 : y2.cell? ⟨W.heap.size, 1, none⟩ = some (.int .i64 0) := cell_blk (HR.out.blkAt 0 rfl) 1 rfl
          have f2 : y2.cell? ⟨W.heap.size, 2, none⟩ = some (.int .i64 0) := cell_blk (HR.out.blkAt 0 rfl) 2 rfl
          have f3 : y2.cell? ⟨W.heap.size, 3, none⟩ = some (.int .i64 0) := cell_blk (HR.out.blkAt 0 rfl) 3 rfl
          have f4 : y2.cell? ⟨W.heap.size, 4, none⟩ = some (.int .i64 0) := cell_blk (HR.out.blkAt 0 rfl) 4 rfl
          have f5 : y2.cell? ⟨W.heap.size, 5, none⟩ = some (.int .i64 0) := cell_blk (HR.out.blkAt 0 rfl) 5 rfl
          have f6 : y2.cell? ⟨W.heap.size, 6, none⟩ = some (.slice none 0 0) := cell_blk (HR.out.blkAt 0 rfl) 6 rfl
          have f7 : y2.cell? ⟨W.heap.size, 7, none⟩ = some (.slice none 0 0) := cell_blk (HR.out.blkAt 0 rfl) 7 rfl
          have f8 : y2.cell? ⟨W.heap.size, 8, none⟩ = some (.slice none 0 0) := cell_blk (HR.out.blkAt 0 rfl) 8 rfl
          have f9 : y2.cell? ⟨W.heap.size, 9, none⟩ = some (.slice none 0 0) := cell_blk (HR.out.blkAt 0 rfl) 9 rfl
          exact bodyPost_ret (v := .tuple #[.agg #[.int .i64 0, .int .i64 0, .int .i64 0, .int .i64 0, .int .i64 0, .int .i64 0, .slice none 0 0, .slice none 0 0, .slice none 0 0, .slice none 0 0], .int .i64 0, .int .i64 2]) (by simp [results, Tryz.results27, go_sem, f0, f1, f2, f3, f4, f5, f6, f7, f8, f9]) rfl (by rw [HO.out]; exact ⟨rfl, HR.out.drop.drop.drop.drop.drop.drop.drop⟩)
        | true =>
          simp only [Bool.true_and] at HO
          have hsk : SOk (fm, bs.drop a) := ⟨by show _ ≤ fm; omega, by show fm ≤ _; omega, HDL.out, HDN.out⟩
          have HCK := Lib.hid (check_any (sl := (v : Int)) (nt_in H4.out hn (by simp +contextual)) hl0 hsk (HBY.out _ _ H4.out (by simp +contextual)))
          rw [show (Mm.ms ⟨k, fm, vw, it, sq, rs, .slice a6 l6.length c6, l6, .slice a7 l7.length c7, l7, .slice a8 l8.length c8, l8, .slice a9 l9.length c9, l9⟩).fm = fm from rfl] at HO
          generalize (decide ((fm, bs.drop a) ∈ l) && (findN l fm (bs.drop a) == (v : Int))) = q at *
          go_wp2_with fail
          refine HCK.out.mono ?_
          rintro e w4 ⟨rfl, hu⟩
          have H5 := Lib.hid (H4.out.upd0 hu)
          clear hu HCK
          cases q with
          | false =>
            simp only [Bool.false_eq_true, if_false] at HO
            go_wp2_with fail
            refine ⟨trivial, ?_⟩
            go_wp2_with fail
            refine ⟨trivial, by rfl, ⟨.inr ⟨⟨rfl, .inr ⟨by kernel_rfl, by kernel_rfl⟩⟩, trivial⟩, .inr ⟨⟨rfl, .inl ⟨by kernel_rfl, rfl⟩⟩, trivial⟩, trivial⟩, ?_⟩
            clear b0 x0 x1 x2 x3 x4 x5 x6 x7 x8 x9
            have b0 := H5.out.blkAt 0 rfl
            have x0 : w4.cell? ⟨W.heap.size, 0, none⟩ = some (.int .i64 k) := cell_blk b0 0 rfl
            have z0 := block_frozen b0 0
            have x1 : w4.cell? ⟨W.heap.size, 1, none⟩ = some (.int .i64 fm) := cell_blk b0 1 rfl
            have z1 := block_frozen b0 1
            have x2 : w4.cell? ⟨W.heap.size, 2, none⟩ = some (.int .i64 vw) := cell_blk b0 2 rfl
            have z2 := block_frozen b0 2
            have x3 : w4.cell? ⟨W.heap.size, 3, none⟩ = some (.int .i64 it) := cell_blk b0 3 rfl
            have z3 := block_frozen b0 3
            have x4 : w4.cell? ⟨W.heap.size, 4, none⟩ = some (.int .i64 sq) := cell_blk b0 4 rfl
            have z4 := block_frozen b0 4
            have x5 : w4.cell? ⟨W.heap.size, 5, none⟩ = some (.int .i64 rs) := cell_blk b0 5 rfl
            have z5 := block_frozen b0 5
            have x6 : w4.cell? ⟨W.heap.size, 6, none⟩ = some (.slice a6 l6.length c6) := cell_blk b0 6 rfl
            have z6 := block_frozen b0 6
            have x7 : w4.cell? ⟨W.heap.size, 7, none⟩ = some (.slice a7 l7.length c7) := cell_blk b0 7 rfl
            have z7 := block_frozen b0 7
            have x8 : w4.cell? ⟨W.heap.size, 8, none⟩ = some (.slice a8 l8.length c8) := cell_blk b0 8 rfl
            have z8 := block_frozen b0 8
            have x9 : w4.cell? ⟨W.heap.size, 9, none⟩ = some (.slice a9 l9.length c9) := cell_blk b0 9 rfl
            have z9 := block_frozen b0 9
            have s0 := H5.out
            have s1 := Own.storeTo s0 0 (.int .i64 0) (o' := .cells #[.int .i64 0, .int .i64 fm, .int .i64 vw, .int .i64 it, .int .i64 sq, .int .i64 rs, .slice a6 l6.length c6, .slice a7 l7.length c7, .slice a8 l8.length c8, .slice a9 l9.length c9] 47 (0, 0)) rfl
            clear s0
            have s2 := Own.storeTo s1 1 (.int .i64 0) (o' := .cells #[.int .i64 0, .int .i64 0, .int .i64 vw, .int .i64 it, .int .i64 sq, .int .i64 rs, .slice a6 l6.length c6, .slice a7 l7.length c7, .slice a8 l8.length c8, .slice a9 l9.length c9] 47 (0, 0)) rfl
            clear s1
            have s3 := Own.storeTo s2 2 (.int .i64 0) (o' := .cells #[.int .i64 0, .int .i64 0, .int .i64 0, .int .i64 it, .int .i64 sq, .int .i64 rs, .slice a6 l6.length c6, .slice a7 l7.length c7, .slice a8 l8.length c8, .slice a9 l9.length c9] 47 (0, 0)) rfl
            clear s2
            have s4 := Own.storeTo s3 3 (.int .i64 0) (o' := .cells #[.int .i64 0, .int .i64 0, .int .i64 0, .int .i64 0, .int .i64 sq, .int .i64 rs, .slice a6 l6.length c6, .slice a7 l7.length c7, .slice a8 l8.length c8, .slice a9 l9.length c9] 47 (0, 0)) rfl
            clear s3
            have s5 := Own.storeTo s4 4 (.int .i64 0) (o' := .cells #[.int .i64 0, .int .i64 0, .int .i64 0, .int .i64 0, .int .i64 0, .int .i64 rs, .slice a6 l6.length c6, .slice a7 l7.length c7, .slice a8 l8.length c8, .slice a9 l9.length c9] 47 (0, 0)) rfl
            clear s4
            have s6 := Own.storeTo s5 5 (.int .i64 0) (o' := .cells #[.int .i64 0, .int .i64 0, .int .i64 0, .int .i64 0, .int .i64 0, .int .i64 0, .slice a6 l6.length c6, .slice a7 l7.length c7, .slice a8 l8.length c8, .slice a9 l9.length c9] 47 (0, 0)) rfl
            clear s5
            have s7 := Own.storeTo s6 6 (.slice none 0 0) (o' := .cells #[.int .i64 0, .int .i64 0, .int .i64 0, .int .i64 0, .int .i64 0, .int .i64 0, .slice none 0 0, .slice a7 l7.length c7, .slice a8 l8.length c8, .slice a9 l9.length c9] 47 (0, 0)) rfl
            clear s6
            have s8 := Own.storeTo s7 7 (.slice none 0 0) (o' := .cells #[.int .i64 0, .int .i64 0, .int .i64 0, .int .i64 0, .int .i64 0, .int .i64 0, .slice none 0 0, .slice none 0 0, .slice a8 l8.length c8, .slice a9 l9.length c9] 47 (0, 0)) rfl
            clear s7
            have s9 := Own.storeTo s8 8 (.slice none 0 0) (o' := .cells #[.int .i64 0, .int .i64 0, .int .i64 0, .int .i64 0, .int .i64 0, .int .i64 0, .slice none 0 0, .slice none 0 0, .slice none 0 0, .slice a9 l9.length c9] 47 (0, 0)) rfl
            clear s8
            have s10 := Own.storeTo s9 9 (.slice none 0 0) (o' := .cells #[.int .i64 0, .int .i64 0, .int .i64 0, .int .i64 0, .int .i64 0, .int .i64 0, .slice none 0 0, .slice none 0 0, .slice none 0 0, .slice none 0 0] 47 (0, 0)) rfl
            clear s9
            have HR := Lib.hid s10
            clear s10
            go_wp2_with fail
            generalize World.setCell _ _ _ = y2 at *
            have f0 : y2.cell? ⟨W.heap.size, 0, none⟩ = some (.int .i64 0) := cell_blk (HR.out.blkAt 0 rfl) 0 rfl
            have f1 : y2.cell? ⟨W.heap.size, 1, none⟩ = some (.int .i64 0) := cell_blk (HR.out.blkAt 0 rfl) 1 rfl
            have f2 : y2.cell? ⟨W.heap.size, 2, none⟩ = some (.int .i64 0) := cell_blk (HR.out.blkAt 0 rfl) 2 rfl
            have f3 : y2.cell? ⟨W.heap.size, 3, none⟩ = some (.int .i64 0) := cell_blk (HR.out.blkAt 0 rfl) 3 rfl
            have f4 : y2.cell? ⟨W.heap.size, 4, none⟩ = some (.int .i64 0) := cell_blk (HR.out.blkAt 0 rfl) 4 rfl
            have f5 : y2.cell? ⟨W.heap.size, 5, none⟩ = some (.int .i64 0) := cell_blk (HR.out.blkAt 0 rfl) 5 rfl
            have f6 : y2.cell? ⟨W.heap.size, 6, none⟩ = some (.slice none 0 0) := cell_blk (HR.out.blkAt 0 rfl) 6 rfl
            have f7 : y2.cell? ⟨W.heap.size, 7, none⟩ = some (.slice none 0 0) := cell_blk (HR.out.blkAt 0 rfl) 7 rfl
            have f8 : y2.cell? ⟨W.heap.size, 8, none⟩ = some (.slice none 0 0) := cell_blk (HR.out.blkAt 0 rfl) 8 rfl
            have f9 : y2.cell? ⟨W.heap.size, 9, none⟩ = some (.slice none 0 0) := cell_blk (HR.out.blkAt 0 rfl) 9 rfl
            exact bodyPost_ret (v := .tuple #[.agg #[.int .i64 0, .int .i64 0, .int .i64 0, .int .i64 0, .int .i64 0, .int .i64 0, .slice none 0 0, .slice none 0 0, .slice none 0 0, .slice none 0 0], .int .i64 0, .int .i64 2]) (by simp [results, Tryz.results27, go_sem, f0, f1, f2, f3, f4, f5, f6, f7, f8, f9]) rfl (by rw [HO.out]; exact ⟨rfl, HR.out.drop.drop.drop.drop.drop.drop.drop⟩)
          | true =>
            simp only [if_true] at HO
            go_wp2_with fail
            refine ⟨trivial, ?_⟩
            go_wp2_with fail
            refine ⟨trivial, by rfl, ⟨.inr ⟨⟨rfl, .inr ⟨by kernel_rfl, by kernel_rfl⟩⟩, trivial⟩, .inr ⟨⟨rfl, .inl ⟨by kernel_rfl, rfl⟩⟩, trivial⟩, trivial⟩, ?_⟩
            clear b0 x0 x1 x2 x3 x4 x5 x6 x7 x8 x9
            have b0 := H5.out.blkAt 0 rfl
            have x0 : w4.cell? ⟨W.heap.size, 0, none⟩ = some (.int .i64 k) := cell_blk b0 0 rfl
            have z0 := block_frozen b0 0
            have x1 : w4.cell? ⟨W.heap.size, 1, none⟩ = some (.int .i64 fm) := cell_blk b0 1 rfl
            have z1 := block_frozen b0 1
            have x2 : w4.cell? ⟨W.heap.size, 2, none⟩ = some (.int .i64 vw) := cell_blk b0 2 rfl
            have z2 := block_frozen b0 2
            have x3 : w4.cell? ⟨W.heap.size, 3, none⟩ = some (.int .i64 it) := cell_blk b0 3 rfl
            have z3 := block_frozen b0 3
            have x4 : w4.cell? ⟨W.heap.size, 4, none⟩ = some (.int .i64 sq) := cell_blk b0 4 rfl
            have z4 := block_frozen b0 4
            have x5 : w4.cell? ⟨W.heap.size, 5, none⟩ = some (.int .i64 rs) := cell_blk b0 5 rfl
            have z5 := block_frozen b0 5
            have x6 : w4.cell? ⟨W.heap.size, 6, none⟩ = some (.slice a6 l6.length c6) := cell_blk b0 6 rfl
            have z6 := block_frozen b0 6
            have x7 : w4.cell? ⟨W.heap.size, 7, none⟩ = some (.slice a7 l7.length c7) := cell_blk b0 7 rfl
            have z7 := block_frozen b0 7
            have x8 : w4.cell? ⟨W.heap.size, 8, none⟩ = some (.slice a8 l8.length c8) := cell_blk b0 8 rfl
            have z8 := block_frozen b0 8
            have x9 : w4.cell? ⟨W.heap.size, 9, none⟩ = some (.slice a9 l9.length c9) := cell_blk b0 9 rfl
            have z9 := block_frozen b0 9
            have s0 := H5.out
            have s1 := Own.storeTo s0 0 (.int .i64 k) (o' := .cells #[.int .i64 k, .int .i64 fm, .int .i64 vw, .int .i64 it, .int .i64 sq, .int .i64 rs, .slice a6 l6.length c6, .slice a7 l7.length c7, .slice a8 l8.length c8, .slice a9 l9.length c9] 47 (0, 0)) rfl
            clear s0
            have s2 := Own.storeTo s1 1 (.int .i64 fm) (o' := .cells #[.int .i64 k, .int .i64 fm, .int .i64 vw, .int .i64 it, .int .i64 sq, .int .i64 rs, .slice a6 l6.length c6, .slice a7 l7.length c7, .slice a8 l8.length c8, .slice a9 l9.length c9] 47 (0, 0)) rfl
            clear s1
            have s3 := Own.storeTo s2 2 (.int .i64 vw) (o' := .cells #[.int .i64 k, .int .i64 fm, .int .i64 vw, .int .i64 it, .int .i64 sq, .int .i64 rs, .slice a6 l6.length c6, .slice a7 l7.length c7, .slice a8 l8.length c8, .slice a9 l9.length c9] 47 (0, 0)) rfl
            clear s2
            have s4 := Own.storeTo s3 3 (.int .i64 it) (o' := .cells #[.int .i64 k, .int .i64 fm, .int .i64 vw, .int .i64 it, .int .i64 sq, .int .i64 rs, .slice a6 l6.length c6, .slice a7 l7.length c7, .slice a8 l8.length c8, .slice a9 l9.length c9] 47 (0, 0)) rfl
            clear s3
            have s5 := Own.storeTo s4 4 (.int .i64 sq) (o' := .cells #[.int .i64 k, .int .i64 fm, .int .i64 vw, .int .i64 it, .int .i64 sq, .int .i64 rs, .slice a6 l6.length c6, .slice a7 l7.length c7, .slice a8 l8.length c8, .slice a9 l9.length c9] 47 (0, 0)) rfl
            clear s4
            have s6 := Own.storeTo s5 5 (.int .i64 rs) (o' := .cells #[.int .i64 k, .int .i64 fm, .int .i64 vw, .int .i64 it, .int .i64 sq, .int .i64 rs, .slice a6 l6.length c6, .slice a7 l7.length c7, .slice a8 l8.length c8, .slice a9 l9.length c9] 47 (0, 0)) rfl
            clear s5
            have s7 := Own.storeTo s6 6 (.slice a6 l6.length c6) (o' := .cells #[.int .i64 k, .int .i64 fm, .int .i64 vw, .int .i64 it, .int .i64 sq, .int .i64 rs, .slice a6 l6.length c6, .slice a7 l7.length c7, .slice a8 l8.length c8, .slice a9 l9.length c9] 47 (0, 0)) rfl
            clear s6
            have s8 := Own.storeTo s7 7 (.slice a7 l7.length c7) (o' := .cells #[.int .i64 k, .int .i64 fm, .int .i64 vw, .int .i64 it, .int .i64 sq, .int .i64 rs, .slice a6 l6.length c6, .slice a7 l7.length c7, .slice a8 l8.length c8, .slice a9 l9.length c9] 47 (0, 0)) rfl
            clear s7
            have s9 := Own.storeTo s8 8 (.slice a8 l8.length c8) (o' := .cells #[.int .i64 k, .int .i64 fm, .int .i64 vw, .int .i64 it, .int .i64 sq, .int .i64 rs, .slice a6 l6.length c6, .slice a7 l7.length c7, .slice a8 l8.length c8, .slice a9 l9.length c9] 47 (0, 0)) rfl
            clear s8
            have s10 := Own.storeTo s9 9 (.slice a9 l9.length c9) (o' := .cells #[.int .i64 k, .int .i64 fm, .int .i64 vw, .int .i64 it, .int .i64 sq, .int .i64 rs, .slice a6 l6.length c6, .slice a7 l7.length c7, .slice a8 l8.length c8, .slice a9 l9.length c9] 47 (0, 0)) rfl
            clear s9
            have HR := Lib.hid s10
            clear s10
            go_wp2_with fail
            generalize World.setCell _ _ _ = y2 at *
            have f0 : y2.cell? ⟨W.heap.size, 0, none⟩ = some (.int .i64 k) := cell_blk (HR.out.blkAt 0 rfl) 0 rfl
            have f1 : y2.cell? ⟨W.heap.size, 1, none⟩ = some (.int .i64 fm) := cell_blk (HR.out.blkAt 0 rfl) 1 rfl
            have f2 : y2.cell? ⟨W.heap.size, 2, none⟩ = some (.int .i64 vw) := cell_blk (HR.out.blkAt 0 rfl) 2 rfl
            have f3 : y2.cell? ⟨W.heap.size, 3, none⟩ = some (.int .i64 it) := cell_blk (HR.out.blkAt 0 rfl) 3 rfl
            have f4 : y2.cell? ⟨W.heap.size, 4, none⟩ = some (.int .i64 sq) := cell_blk (HR.out.blkAt 0 rfl) 4 rfl
            have f5 : y2.cell? ⟨W.heap.size, 5, none⟩ = some (.int .i64 rs) := cell_blk (HR.out.blkAt 0 rfl) 5 rfl
            have f6 : y2.cell? ⟨W.heap.size, 6, none⟩ = some (.slice a6 l6.length c6) := cell_blk (HR.out.blkAt 0 rfl) 6 rfl
            have f7 : y2.cell? ⟨W.heap.size, 7, none⟩ = some (.slice a7 l7.length c7) := cell_blk (HR.out.blkAt 0 rfl) 7 rfl
            have f8 : y2.cell? ⟨W.heap.size, 8, none⟩ = some (.slice a8 l8.length c8) := cell_blk (HR.out.blkAt 0 rfl) 8 rfl
            have f9 : y2.cell? ⟨W.heap.size, 9, none⟩ = some (.slice a9 l9.length c9) := cell_blk (HR.out.blkAt 0 rfl) 9 rfl
            exact bodyPost_ret (v := .tuple #[.agg #[.int .i64 k, .int .i64 fm, .int .i64 vw, .int .i64 it, .int .i64 sq, .int .i64 rs, .slice a6 l6.length c6, .slice a7 l7.length c7, .slice a8 l8.length c8, .slice a9 l9.length c9], .int .i64 v, .int .i64 0]) (by simp [results, Tryz.results27, go_sem, f0, f1, f2, f3, f4, f5, f6, f7, f8, f9]) rfl (by rw [HO.out]; exact ⟨_, rfl, rfl, HMO.out, HR.out.drop⟩)

end Go.Proofs.YtannckelmojkoaaGreat
