/- inst: Install (of nothing); Certs. -/
import Derived.Test.YtdeadekeffficaaInO
namespace Go.Proofs.Ytdeadekeffficaa
open Go.RowKit Go.Heap

theorem Try.infoCert : (Try.prog.info? 70).map (fun i => (i.zero, i.size, i.bytes)) = some (some (.agg #[.int .i64 0, .int .i64 0, .int .i64 0, .slice none 0 0, .slice none 0 0]), 5, 72) := by kernel_rfl

section
variable {B : Nat} {w0 W W' : World} {ss rs : List Res} {x : Ins}

set_option maxHeartbeats 1000000 in
theorem ai_install0 {i : Nat} {st : In} (h : AtI B w0 W i st ss) : Calls Try.prog 44 #[.pointer (some ⟨i, 0, none⟩), .slice none 0 0] W fun e w' => e = .returned (.bool (!st.on)) ∧ AtI B w0 w' i { st with on := true } ss := by
  obtain ⟨x, rfl, rfl, h3⟩ := h
  have ho := own_open h3
  obtain ⟨-, -, -, -, c4, c5, l1, l2⟩ := oi_cells ho
  obtain ⟨-, fz⟩ := oi_fz ho
  have z4 := fz 4
  cases hon : x.on
  · rw [hon] at c4
    have H1 : Hid (AtI B w0 (W.setCell ⟨x.i, 4, none⟩ (.bool true)) x.i { x.st with on := true } ss) := Lib.hid ⟨{ x with on := true }, rfl, rfl, own_shut (by
      have h4 : Own B w0 (W.setCell ⟨x.i, 4, none⟩ (.bool true)) (blk x.i (insO x.f x.num x.ahead x.view true (.slice (some ⟨x.b, 0, none⟩) 16 x.cap)) :: segR x.b 122 (x.l.flatMap pmCells) :: certsR x :: (x.l.map pmR ++ ss)) := Own.store ho 4 (.bool true)
      exact oi_hd h4 (oi_ok ho).vw)⟩
    have HON := Lib.hid (show x.st.on = false from hon)
    clear ho h3 fz hon
    go_enter Try.func44, Try.ntmps44
    go_wp2_with fail
    generalize W.setCell ⟨x.i, 4, none⟩ (.bool true) = w1 at *
    go_loop [26] (fun n => n = .int .i64 0) (fun n => 0)
    case atStart => rfl
    case round =>
      subst hrel
      go_wp2_with fail
      go_ret
      rw [HON.out]
      exact ⟨rfl, H1.out⟩
  · rw [hon] at c4
    have H1 : Hid (AtI B w0 W x.i { x.st with on := true } ss) := Lib.hid ⟨x, rfl, by simp [Ins.st, hon], h3⟩
    have HON := Lib.hid (show x.st.on = true from hon)
    clear ho h3 fz hon z4
    go_enter Try.func44, Try.ntmps44
    go_wp2_with fail
    go_ret
    rw [HON.out]
    exact ⟨rfl, H1.out⟩

/-- Certificates that are only read. -/
def ctsR (cts : List Ct) : Res := imm (fun w D => ∀ c ∈ cts, CtIn w c D) (fun h hk hs c hc => (h c hc).dep hk hs)

theorem cts_add {cts : List Ct} {c : Ct} (h : Own B w0 W (redR c.vv 2 c.vs.length (vsCells c.vs) :: redR c.vb 6 c.rs.length (rqsCells c.rs) :: ctsR cts :: rs)) (hn : c.rs.length ≤ 100000) (hm : c.vs.length ≤ 100000) : Own B w0 W (ctsR (cts ++ [c]) :: rs) := by
  have h1 := h.rot
  refine (h1.alter (r' := ctsR (cts ++ [c])) ?_ (by simp [ctsR, imm])).rot'.drop.drop
  obtain ⟨D, ⟨q1, q2⟩, q3, q4⟩ := h1.head
  obtain ⟨D1, ⟨v1, v2⟩, v3, _⟩ := (h1.all (redR c.vv 2 c.vs.length (vsCells c.vs)) (List.mem_cons_of_mem _ List.mem_cons_self)).1
  obtain ⟨D2, ⟨b1, b2⟩, b3, _⟩ := (h1.all (redR c.vb 6 c.rs.length (rqsCells c.rs)) (List.mem_cons_of_mem _ (List.mem_cons_of_mem _ List.mem_cons_self))).1
  refine ⟨D ++ (D1 ++ D2), ⟨fun c' hc' => ?_, fun k hk => ?_⟩, fun k hk => ?_, q4⟩
  · rcases List.mem_append.1 hc' with hc' | hc'
    · exact (q1 c' hc').mono (by simp +contextual)
    · simp at hc'; subst hc'
      exact ⟨b1.mono (by simp +contextual), hn, v1.mono (by simp +contextual), hm⟩
  · rcases List.mem_append.1 hk with hk | hk
    · exact q2 k hk
    · rcases List.mem_append.1 hk with hk | hk
      · exact v2 k hk
      · exact b2 k hk
  · rcases List.mem_append.1 hk with hk | hk
    · exact q3 k hk
    · rcases List.mem_append.1 hk with hk | hk
      · exact v3 k hk
      · exact b3 k hk

theorem ctCells_one {c : Ct} {a1 : Option Addr} {n1 c1 : Nat} {a2 : Option Addr} {n2 c2 : Nat} (h1 : c.vb = .slice a1 n1 c1) (h2 : c.vv = .slice a2 n2 c2) : ∀ u ∈ ctCells c, u.oneCell' = true := by
  intro u hu
  simp only [ctCells, h1, h2, List.mem_cons, List.not_mem_nil, or_false] at hu
  rcases hu with rfl | rfl | rfl | rfl | rfl <;> rfl

/-- What Certs leaves: certificates in new memory. -/
def CertsP (B : Nat) (w0 : World) (i : Nat) (st : In) (ss : List Res) (e : Ending) (w' : World) : Prop :=
  ∃ (u : Value) (cts : List Ct), e = .returned u ∧ cts.map Ct.cp = certsI st ∧ AtI B w0 w' i st (ownR 70 5 u cts.length (cts.flatMap ctCells) :: ctsR cts :: ss)

theorem certs_take (l : List Pm) (k : Nat) (hk : k < l.length) : ((l.take (k + 1)).filter (·.has)).map (fun p => p.ct.cp) = ((l.take k).filter (·.has)).map (fun p => p.ct.cp) ++ if l[k].has then [l[k].ct.cp] else [] := by
  rw [List.take_succ_eq_append_getElem hk, List.filter_append, List.map_append]
  congr 1
  cases h : l[k].has <;> simp [h]

theorem certs_all (x : Ins) (h : x.l.length = 16) : ((x.l.take 16).filter (·.has)).map (fun p => p.ct.cp) = certsI x.st := by
  rw [List.take_of_length_le (by omega)]
  simp only [certsI, Ins.st, List.filter_map, List.map_map]
  rfl

set_option maxHeartbeats 2000000 in
set_option maxRecDepth 100000 in
theorem ai_certs {i : Nat} {st : In} (h : AtI B w0 W i st ss) : Calls Try.prog 46 #[.pointer (some ⟨i, 0, none⟩)] W (CertsP B w0 i st ss) := by
  obtain ⟨x, rfl, rfl, h3⟩ := h
  obtain ⟨i0, hi, hz0, hz1, hz2⟩ := info_parts Try.infoCert
  have ho := own_open h3
  obtain ⟨-, -, -, -, -, c5, l1, l2⟩ := oi_cells ho
  have HN := Lib.hid (oi_ok ho).n
  have H0 : Hid (Own B w0 W (ownR 70 5 (.slice none 0 0) 0 [] :: ctsR [] :: instR x :: ss)) := Lib.hid ((h3.new (r := ctsR []) (Upd.refl [] _) ⟨[], ⟨by simp, by simp⟩, by simp, fun k hk => h3.lt k hk⟩ (by simp [ctsR, imm])).row0)
  clear ho h3
  go_enter Try.func46, Try.ntmps46
  go_wp2_with fail
  go_loopw [3, 11] (fun out n wr => ∃ (k : Nat) (cts : List Ct) (ao : Option Addr) (cp : Nat), k ≤ 16 ∧ n = .int .i64 k ∧ out = .slice ao cts.length cp ∧ Hid (cts.map Ct.cp = ((x.l.take k).filter (·.has)).map (fun p => p.ct.cp)) ∧ Hid (cts.length ≤ k) ∧
    Hid (Own B w0 wr (ownR 70 5 (.slice ao cts.length cp) cts.length (cts.flatMap ctCells) :: ctsR cts :: instR x :: ss))) (fun _ n _ => 16 - (intOf n).toNat)
  case atStart => exact ⟨0, [], none, 0, by omega, rfl, rfl, Lib.hid rfl, Lib.hid (by simp), H0⟩
  case round =>
    clear H0 c5
    obtain ⟨k, cts, ao, cp, hk, rfl, rfl, HM, HLE, H1⟩ := hrel
    by_cases hlt : k < 16
    · have hkI : (k : Int) < 16 := by omega
      have hl : k < x.l.length := by rw [HN.out]; exact hlt
      have hle := HLE.out
      have h1 := own_open H1.out.rot
      obtain ⟨a1, e1, a2, e2, a3, e3, a4, e4, s1, s2, s3, s4⟩ := ct_shape h1 k hl
      obtain ⟨g0, g1, g2, g3, g4, g5, g6, g7, g8, g9, g10, g11, g12, g13⟩ := oi_row h1 k hl
      have HT := Lib.hid (certs_take x.l k hl)
      have hct := (oi_cert h1 k hl).1
      rw [s1] at g6; rw [s2] at g7; rw [s3] at g12; rw [s4] at g13
      have HS1 := Lib.hid s1
      have HS2 := Lib.hid s2
      have H2 := Lib.hid (H1.out.alloc (.cells #[x.l[k].lc.ptr, .bool x.l[k].told, .bool x.l[k].has, .int .i64 x.l[k].ct.view, .int .i64 x.l[k].ct.inst, .int .i64 x.l[k].ct.seq, .slice a1 x.l[k].ct.rs.length e1, .slice a2 x.l[k].ct.vs.length e2, .bool x.l[k].done, .int .i64 x.l[k].dw.view, .int .i64 x.l[k].dw.inst, .int .i64 x.l[k].dw.seq, .slice a3 x.l[k].dw.rs.length e3, .slice a4 x.l[k].dw.vs.length e4] 122 (0, 0)))
      have HF := Lib.hid (fresh_ct x.l[k].ct (wr.alloc (.cells #[x.l[k].lc.ptr, .bool x.l[k].told, .bool x.l[k].has, .int .i64 x.l[k].ct.view, .int .i64 x.l[k].ct.inst, .int .i64 x.l[k].ct.seq, .slice a1 x.l[k].ct.rs.length e1, .slice a2 x.l[k].ct.vs.length e2, .bool x.l[k].done, .int .i64 x.l[k].dw.view, .int .i64 x.l[k].dw.inst, .int .i64 x.l[k].dw.seq, .slice a3 x.l[k].dw.rs.length e3, .slice a4 x.l[k].dw.vs.length e4] 122 (0, 0))) (Reads.upd (M := []) hct.1 ((Upd.refl _ _).alloc _) (by simp)) hct.2.2.1 (Reads.upd (M := []) hct.2.1 ((Upd.refl _ _).alloc _) (by simp)) hct.2.2.2)
      unfold ctAgg at HF
      rw [HS1.out, HS2.out] at HF
      obtain ⟨hn1, hn2⟩ := hct.2.2
      clear h1 s1 s2 s3 s4 hct H1
      cases hh : x.l[k].has
      · rw [hh] at g2 HT
        have HHH := Lib.hid hh
        clear hh
        go_wp2_with fail
        go_roundw
        case rel => exact ⟨k + 1, cts, ao, cp, by omega, by go_num, rfl, Lib.hid (by rw [HM.out, HT.out]; simp), Lib.hid (by omega), by rw [← HHH.out]; exact H2⟩
        case measure => simp [intOf]; omega
      · rw [hh] at g2 HT HF H2
        clear hh
        go_wp2_with fail
        refine HF.out.mono ?_
        rintro e w2 ⟨⟨view', inst', seq', vb', vv', rs', vs'⟩, rfl, hcp, hu2, hb2, hv2, n1, n2⟩
        simp only at hb2 hv2 n1 n2
        obtain ⟨ao6, cap6, rfl⟩ := bat_form hb2
        obtain ⟨co6, cav6, rfl⟩ := vts_form hv2
        have HCP := Lib.hid hcp
        have H3 := Lib.hid ((own_red2 H2.out hu2 hb2 hv2 n1 n2).rot.alloc (.cells (ctCells ⟨view', inst', seq', .slice ao6 rs'.length cap6, .slice co6 vs'.length cav6, rs', vs'⟩).toArray 70))
        have HO := Lib.hid (ownR_owns H3.out.head)
        clear hcp hu2 hb2 hv2 n1 n2 HF H2 g0 g1 g2 g3 g4 g5 g6 g7 g8 g9 g10 g11 g12 g13
        go_wp2_with (at_builtin; refine wpList_append_lies _ rfl (.tmp 17) (.tmp 21) 80 rfl 0 70 i0 (.agg #[.int .i64 0, .int .i64 0, .int .i64 0, .slice none 0 0, .slice none 0 0]) 5 72 Try.underlying80 hi hz0 hz1 hz2 rfl (by decide) _ cts.length _ rfl HO.out ⟨w2.heap.size, 0, none⟩ 1 1 (ctCells ⟨view', inst', seq', .slice ao6 rs'.length cap6, .slice co6 vs'.length cav6, rs', vs'⟩) rfl rfl ?c1 ?c2 (by decide) ?c3 ?c4 (Nat.zero_le _) _ rfl ?c6)
        case c1 => exact World.news_of_block (heap_alloc_new w2 _)
        case c2 => exact ctCells_one rfl rfl
        case c3 => unfold maxLen; omega
        case c4 => omega
        case c6 =>
          intro g cap2 w3 hown hgrow hat hlt3
          have h4 := (H3.out.grow hgrow (by rw [hs_alloc]; exact hat) hown).perm3
          have hcp := HCP.out
          have e4 : rs' = x.l[k].ct.rs := congrArg Cp.rs hcp
          have e5 : vs' = x.l[k].ct.vs := congrArg Cp.vs hcp
          have h5 := (cts_add (c := ⟨view', inst', seq', .slice ao6 rs'.length cap6, .slice co6 vs'.length cav6, rs', vs'⟩) h4 (by rw [e4]; exact hn1) (by rw [e5]; exact hn2)).swap
          have H5 := Lib.hid h5
          clear h4 h5 hown hgrow hat hlt3 hcp e4 e5
          go_wp2_with fail
          go_roundw
          case rel =>
            refine ⟨k + 1, cts ++ [⟨view', inst', seq', .slice ao6 rs'.length cap6, .slice co6 vs'.length cav6, rs', vs'⟩], some ⟨g, 0, none⟩, cap2, by omega, by go_num, by simp, Lib.hid ?_, Lib.hid (by simp; omega), Lib.hid ?_⟩
            · rw [List.map_append, HM.out, HT.out]
              simp only [if_true, List.map_cons, List.map_nil]
              rw [HCP.out]
            · rw [List.flatMap_append, List.length_append]
              simpa using H5.out
          case measure => simp [intOf]; omega
    · have hk16 : k = 16 := by omega
      subst hk16
      have HCA := Lib.hid (certs_all x HN.out)
      go_wp2_with fail
      go_ret
      exact ⟨_, cts, rfl, by rw [HM.out, HCA.out], x, rfl, rfl, H1.out.rot⟩

end
end Go.Proofs.Ytdeadekeffficaa
