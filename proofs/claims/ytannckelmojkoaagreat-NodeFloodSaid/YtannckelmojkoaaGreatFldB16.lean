/- Parts of the proof, one behind the other. -/
import Derived.Test.YtannckelmojkoaaGreatFldB15

/- The notary: seals by party and text. -/
namespace Go.Proofs.YtannckelmojkoaaGreat
open Go.RowKit Go.Heap

/-- What was sealed, the first seal first. -/
abbrev Nt := List (Int × Bys)
def txt (b : Bys) : ByteArray := strOfNums (b.map fun c : Nat => (c : Int))
def nkey (p : Int) (s : ByteArray) : Value := .agg #[.int .i64 p, .string s]
def ntE (x : Int × Bys) (i : Nat) : MapEntry := { key := nkey x.1 (txt x.2), val := .int .i64 ((i : Int) + 1), born := i }
def ntGo : Nt → Nat → List MapEntry
  | [], _ => []
  | x :: l, i => ntE x i :: ntGo l (i + 1)
def ntEs (l : Nt) : Array MapEntry := (ntGo l 0).toArray
/-- The number that was given. -/
def ntFind : Nt → Nat → Int → Bys → Option Nat
  | [], _, _, _ => none
  | x :: l, i, p, b => if x = (p, b) then some i else ntFind l (i + 1) p b

theorem txt_inj {a b : Bys} (ha : ∀ c ∈ a, c < 256) (hb : ∀ c ∈ b, c < 256) (h : txt a = txt b) : a = b := by
  have h2 : (txt a).data.toList = (txt b).data.toList := by rw [h]
  unfold txt at h2
  rw [strOfNums_data, strOfNums_data, List.map_map, List.map_map] at h2
  clear h
  induction a generalizing b with
  | nil => cases b with
    | nil => rfl
    | cons y b => simp at h2
  | cons x a ih => cases b with
    | nil => simp at h2
    | cons y b =>
      simp only [List.map_cons, List.cons.injEq, Function.comp] at h2
      obtain ⟨h3, h4⟩ := h2
      have hx := ha x (by simp)
      have hy := hb y (by simp)
      have e : x = y := by
        have := congrArg UInt8.toNat h3
        simp only [Int.toNat_natCast, UInt8.toNat_ofNat'] at this
        omega
      rw [e, ih (fun c hc => ha c (by simp [hc])) (fun c hc => hb c (by simp [hc])) h4]

theorem Tryz.ukey : Tryz.prog.underlying 194 = some (.struct (Tryz.prog.fieldsOf 194)) := by kernel_rfl
theorem Tryz.umap : Tryz.prog.underlying 150 = some (.map 194 3) := by kernel_rfl

theorem Tryz.pk1 : Tryz.prog.underlying 3 = some (.int .i64) := by kernel_rfl
theorem Tryz.pk2 : Tryz.prog.underlying 9 = some .string := by kernel_rfl

theorem run_check_int (em : Bool) (n : Nat) (p : Int) (w : World) : (Instr.checkKey em (n + 1) 3 (.int .i64 p)).run Tryz.prog w = .ok () w := by
  unfold Instr.checkKey
  simp only [Sem.run_bind, run_underlying Tryz.pk1, Result.andThen]
  simp [Sem.run_pure]
theorem run_check_str (em : Bool) (n : Nat) (s : ByteArray) (w : World) : (Instr.checkKey em (n + 1) 9 (.string s)).run Tryz.prog w = .ok () w := by
  unfold Instr.checkKey
  simp only [Sem.run_bind, run_underlying Tryz.pk2, Result.andThen]
  simp [Sem.run_pure]
theorem Tryz.kf : Tryz.prog.fieldsOf 194 = #[(Tryz.prog.fieldsOf 194)[0]!, (Tryz.prog.fieldsOf 194)[1]!] := by kernel_rfl
theorem Tryz.kf0 : ((Tryz.prog.fieldsOf 194)[0]!).name = "party" ∧ ((Tryz.prog.fieldsOf 194)[0]!).type = 3 ∧ ((Tryz.prog.fieldsOf 194)[0]!).offset = 0 := ⟨by kernel_rfl, by kernel_rfl, by kernel_rfl⟩
theorem Tryz.kf1 : ((Tryz.prog.fieldsOf 194)[1]!).name = "text" ∧ ((Tryz.prog.fieldsOf 194)[1]!).type = 9 ∧ ((Tryz.prog.fieldsOf 194)[1]!).offset = 1 := ⟨by kernel_rfl, by kernel_rfl, by kernel_rfl⟩

theorem run_check_key (p : Int) (s : ByteArray) (em : Bool) (w : World) : (Instr.checkKey em (9998 + 1 + 1) 194 (nkey p s)).run Tryz.prog w = .ok () w := by
  have h1 : (part 3 #[.int .i64 p, .string s] 0).run Tryz.prog w = .ok (.int .i64 p) w := run_part_plain w (by kernel_rfl) rfl
  have h2 : (part 9 #[.int .i64 p, .string s] 1).run Tryz.prog w = .ok (.string s) w := run_part_plain w (by kernel_rfl) rfl
  obtain ⟨a1, a2, a3⟩ := Tryz.kf0
  obtain ⟨b1, b2, b3⟩ := Tryz.kf1
  have hk := Tryz.kf
  generalize (Tryz.prog.fieldsOf 194)[0]! = f0 at *
  generalize (Tryz.prog.fieldsOf 194)[1]! = f1 at *
  unfold nkey
  rw [Instr.checkKey]
  simp only [Sem.run_bind, run_underlying Tryz.ukey, Result.andThen, hk]
  simp [a1, a2, a3, b1, b2, b3, h1, h2, run_check_int, run_check_str, Sem.run_bind, Result.andThen, Sem.run_pure]

theorem run_lookup0 (m : Nat) (p : Int) (s : ByteArray) (w : World) (h : w.heap[m]? = some (.map #[] 0)) : (Instr.lookup 150 (.map (some m)) (nkey p s) true).run Tryz.prog w = .ok (.tuple #[.int .i64 0, .bool false]) w := by
  have hz : (zeroValue 3).run Tryz.prog w = .ok (.int .i64 0) w := by kernel_rfl
  have hf : (Instr.findKey 194 (nkey p s) []).run Tryz.prog w = .ok none w := by
    simp [Instr.findKey, Instr.findNow, run_underlying Tryz.ukey]
  have hc : (Instr.checkKey true 10000 194 (nkey p s)).run Tryz.prog w = .ok () w := run_check_key p s true w
  simp [Instr.lookup, run_underlying Tryz.umap, MapKept.run_getObj_map h, Result.andThen, hc, hf, hz]

end Go.Proofs.YtannckelmojkoaaGreat

/- The notary's calls where nothing was sealed. -/
namespace Go.Proofs.YtannckelmojkoaaGreat
open Go.RowKit Go.Heap

theorem run_conv {w : World} {v : Value} {bs : Bys} (h : Byt w v bs) : (convert 60 9 v).run Tryz.prog w = .ok (.string (txt bs)) w := by
  have hs : Tryz.prog.underlying 60 = some (.slice 5) := by kernel_rfl
  have he : Tryz.prog.underlying 5 = some (.int .u8) := by kernel_rfl
  obtain ⟨⟨ao, cap, rfl, h1, h2, h3, h4, h5⟩, -⟩ := h
  by_cases hz : bs.length = 0
  · have hb : bs = [] := List.eq_nil_of_length_eq_zero hz
    subst hb
    rw [run_convert_bytes_string w _ _ _ _ _ _ hs he Tryz.pk2]
    cases ao <;> simp [Conv.bytesToString, loadCells]
    all_goals rfl
  · obtain ⟨b, o, rfl, hb, hc⟩ := h5 (by omega)
    refine run_convert_bytes_arg w _ _ hs he b o bs.length cap (bs.map fun c : Nat => (c : Int)) (by simp) (fun i hi => ?_) _ Tryz.pk2
    rw [hc i (by omega)]
    simp [List.getD, hi]

abbrev noB (m : Nat) : Obj := .cells #[.map (some m)] 152 (0, 0)
set_option maxHeartbeats 2000000 in
theorem find0 {p m : Nat} {party : Int} {bv : Value} {bs : Bys} {W : World} (hp : W.heap[p]? = some (noB m)) (hm : W.heap[m]? = some (.map #[] 0)) (hb : Byt W bv bs) :
    Calls Tryz.prog 147 #[.pointer (some ⟨p, 0, none⟩), .int .i64 party, bv] W fun e w' => e = .returned (.tuple #[.int .i64 0, .bool false]) ∧ Upd [] W w' := by
  have hcv : ∀ n, (convert 60 9 bv).run Tryz.prog (W.drewN n) = .ok (.string (txt bs)) (W.drewN n) := fun n => run_conv (hb.upd ((Upd.refl _ _).drewN n))
  have hlk : ∀ n, (Instr.lookup 150 (.map (some m)) (.agg #[.int .i64 party, .string (txt bs)]) true).run Tryz.prog (W.drewN n) = .ok (.tuple #[.int .i64 0, .bool false]) (W.drewN n) := fun n => run_lookup0 m party (txt bs) _ hm
  have c0 : W.cell? ⟨p, 0, none⟩ = some (.map (some m)) := by rw [block_cell hp]; rfl
  clear hp hm
  obtain ⟨ao, cap, rfl, -, -⟩ := byt_form hb
  clear hb
  go_enter Tryz.func147, Tryz.ntmps147
  go_wp2_with fail
  go_quiet (fail)
  go_wp2_with fail
  go_ret2
  exact ⟨rfl, (Upd.refl _ _).drewN _⟩

set_option maxHeartbeats 2000000 in
theorem check0 {p m : Nat} {party sl : Int} {bv : Value} {bs : Bys} {W : World} (hp : W.heap[p]? = some (noB m)) (hm : W.heap[m]? = some (.map #[] 0)) (hb : Byt W bv bs) :
    Calls Tryz.prog 77 #[.pointer (some ⟨p, 0, none⟩), .int .i64 party, bv, .int .i64 sl] W fun e w' => e = .returned (.bool false) ∧ Upd [] W w' := by
  have HF := Lib.hid (find0 (party := party) hp hm hb)
  clear hp hm hb
  go_enter Tryz.func77, Tryz.ntmps77
  go_wp2_with fail
  refine HF.out.mono ?_
  rintro e w1 ⟨rfl, hu⟩
  go_wp2_with fail
  go_ret
  exact ⟨rfl, hu⟩

theorem nlen0 {p m : Nat} {W : World} (hp : W.heap[p]? = some (noB m)) (hm : W.heap[m]? = some (.map #[] 0)) :
    Calls Tryz.prog 44 #[.pointer (some ⟨p, 0, none⟩)] W fun e w' => e = .returned (.int .i64 0) ∧ W = w' := by
  have c0 : W.cell? ⟨p, 0, none⟩ = some (.map (some m)) := by rw [block_cell hp]; rfl
  have hlen : ∀ ty, (Builtin.len_ #[150] ty #[.map (some m)]).run Tryz.prog W = .ok (.int .i64 0) W := fun ty => by
    simp [Builtin.len_, run_underlying Tryz.umap, MapKept.run_getObj_map hm, goInt, Result.andThen]
  clear hp
  go_enter Tryz.func44, Tryz.ntmps44
  go_wp2_with fail
  go_ret
  exact ⟨rfl, rfl⟩

end Go.Proofs.YtannckelmojkoaaGreat

/- What Parse gives: bounds, and what is there. -/
namespace Go.Proofs.YtannckelmojkoaaGreat
open Go.RowKit Go.Heap

theorem whole_len {α : Type} {b : Bys} {one : Rs → α × Rs} {a : Nat} {l : List α} {a' : Nat} (h : wholeL b one a = some (l, a')) : l.length ≤ 256 := by
  unfold wholeL at h
  split at h
  · cases h
  · simp only [Option.some.injEq, Prod.mk.injEq] at h
    rw [← h.1]; exact rdL_len _ _ _

structure MsOk (m : Ms) : Prop where
  r : m.rs.length ≤ 256
  v : m.vs.length ≤ 256
  c : m.cs.length ≤ 256
  p : m.ps.length ≤ 256
  f0 : 0 ≤ m.fm
  f1 : m.fm < 1099511627776

theorem parse_ok {b : Bys} {m : Ms} (h : parseP b = some m) : MsOk m := by
  unfold parseP at h
  split at h
  · cases h
  unfold pm0 at h
  split at h
  · cases h
  unfold pm1 at h
  split at h
  · cases h
  rename_i hf
  unfold pm2 at h
  split at h
  · cases h
  unfold pm3 at h
  split at h
  · cases h
  unfold pm4 at h
  split at h
  · cases h
  unfold pm5 at h
  split at h
  · cases h
  unfold pm6 at h
  split at h
  · cases h
  rename_i hr
  unfold pm7 at h
  split at h
  · cases h
  rename_i hv
  unfold pm8 at h
  split at h
  · cases h
  rename_i hc
  unfold pm9 at h
  split at h
  · cases h
  rename_i hp
  split at h
  · simp only [Option.some.injEq] at h
    subst h
    have h1 := (takeN_in hf).1
    unfold topN at h1
    exact ⟨whole_len hr, whole_len hv, whole_len hc, whole_len hp, by simp, by simp; omega⟩
  · cases h

section
variable {B : Nat} {w0 W : World} {ss : List Res}
theorem mm_at {m : Mm} (h : Own B w0 W (mmR m ss)) (hm : MsOk m.ms) : MmAt W m := by
  obtain ⟨D5, ⟨b1, -⟩, -, -⟩ := h.get 5 rfl
  obtain ⟨D4, ⟨v1, -⟩, -, -⟩ := h.get 4 rfl
  obtain ⟨D3, ⟨c3, -⟩, -, -⟩ := h.get 3 rfl
  obtain ⟨D2, ⟨c1, -⟩, -, -⟩ := h.get 2 rfl
  obtain ⟨D1, ⟨p3, -⟩, -, -⟩ := h.get 1 rfl
  obtain ⟨D0, ⟨p1, -⟩, -, -⟩ := h.get 0 rfl
  have hr := hm.r
  have hv := hm.v
  have hc := hm.c
  have hp := hm.p
  simp only [Mm.ms, List.length_map] at hr hv hc hp
  have ctw : ∀ {c : Ct} {D : List Nat}, CtIn W c D → CtW W c := fun h => ⟨h.b.1, h.bn, h.v.1, h.vn⟩
  exact ⟨b1.1, by omega, v1.1, by omega, ⟨c1.1, fun c hc => ctw (c3 c hc)⟩, by omega, ⟨p1.1, fun p hp => ⟨(p3 p hp).v.1, (p3 p hp).vn, ⟨(p3 p hp).c.1, fun c hc => ctw ((p3 p hp).cs c hc)⟩, (p3 p hp).cn⟩⟩, by omega⟩
end

end Go.Proofs.YtannckelmojkoaaGreat
