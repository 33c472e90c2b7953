/- Parts of the proof, one behind the other. -/
import Derived.Test.YtannckelmojkoaaGreatMovB15

/- Messages as bytes: what is written, and that it reads as it was. No program is looked at. -/
namespace Go.Proofs.YtannckelmojkoaaGreat

/-- A number's bytes. -/
def encN : Nat → Nat → Bys
  | 0, n => [n]
  | f + 1, n => if n < 128 then [n] else (n % 128 + 128) :: encN f (n / 128)
abbrev numB (n : Int) : Bys := encN 5 n.toNat
def zigN (n : Int) : Nat := if n < 0 then (-2 * n - 1).toNat else (2 * n).toNat
abbrev sgnB (n : Int) : Bys := encN 5 (zigN n)
def numOk (n : Int) : Bool := decide (0 ≤ n) && decide (n < 1099511627776)
def sgnOk (n : Int) : Bool := decide (-549755813888 ≤ n) && decide (n < 549755813888)

theorem encN_len : ∀ (f n : Nat), 1 ≤ (encN f n).length ∧ (encN f n).length ≤ f + 1
  | 0, n => by simp [encN]
  | f + 1, n => by
    unfold encN
    split
    · simp
    · have := encN_len f (n / 128); simp; omega
theorem encN_byte : ∀ (f n : Nat), n < 128 ^ (f + 1) → ∀ c ∈ encN f n, c < 256
  | 0, n, h => by simp [encN]; omega
  | f + 1, n, h => by
    unfold encN
    split
    · intro c hc; simp at hc; omega
    · intro c hc
      rcases List.mem_cons.1 hc with h1 | h1
      · omega
      · refine encN_byte f (n / 128) ?_ c h1
        rw [Nat.pow_succ] at h
        exact (Nat.div_lt_iff_lt_mul (by omega)).2 h

/-- These bytes stand there. -/
def AtB (b e : Bys) (a : Nat) : Prop := ∀ i, i < e.length → b[a + i]? = e[i]?
theorem atB_app {b e1 e2 : Bys} {a : Nat} (h : AtB b (e1 ++ e2) a) : AtB b e1 a ∧ AtB b e2 (a + e1.length) := by
  refine ⟨fun i hi => ?_, fun i hi => ?_⟩
  · rw [h i (by simp; omega), List.getElem?_append_left hi]
  · rw [Nat.add_assoc, h (e1.length + i) (by simp; omega), List.getElem?_append_right (by omega), Nat.add_sub_cancel_left]

theorem enc_take {b : Bys} : ∀ (f m n k a : Nat), AtB b (encN f m) a → m < 128 ^ (f + 1) → n + m * 128 ^ k < topN → (k = 0 ∨ 0 < m) → tkGo b (f + 1) n k a = some (n + m * 128 ^ k, a + (encN f m).length)
  | 0, m, n, k, a, h, hm, ht, hk => by
    have h0 := h 0 (by simp [encN])
    simp only [encN, Nat.add_zero, List.getElem?_cons_zero] at h0
    have hm : m < 128 := by simpa using hm
    unfold tkGo
    rw [h0]
    simp only
    rw [if_neg (by omega), Nat.mod_eq_of_lt hm, if_neg (by omega)]
    rfl
  | f + 1, m, n, k, a, h, hm, ht, hk => by
    unfold tkGo
    by_cases hlt : m < 128
    · unfold encN at h ⊢
      rw [if_pos hlt] at h ⊢
      have h0 := h 0 (by simp)
      simp only [Nat.add_zero, List.getElem?_cons_zero] at h0
      rw [h0]
      simp only
      rw [if_neg (by omega), Nat.mod_eq_of_lt hlt, if_neg (by omega)]
      rfl
    · unfold encN at h ⊢
      rw [if_neg hlt] at h ⊢
      have h0 := h 0 (by simp)
      simp only [Nat.add_zero, List.getElem?_cons_zero] at h0
      rw [h0]
      simp only
      have e1 : (m % 128 + 128) % 128 = m % 128 := by omega
      have e2 : m % 128 * 128 ^ k + m / 128 * 128 ^ (k + 1) = m * 128 ^ k := by
        rw [Nat.pow_succ, Nat.mul_comm (128 ^ k) 128, ← Nat.mul_assoc, ← Nat.add_mul]
        congr 1; omega
      rw [if_pos (by omega), e1, enc_take f (m / 128) (n + m % 128 * 128 ^ k) (k + 1) (a + 1) (fun i hi => ?_) ?_ (by rw [Nat.add_assoc, e2]; exact ht) (by right; omega)]
      · rw [Nat.add_assoc, e2, List.length_cons]; congr 2; omega
      · rw [Nat.pow_succ] at hm
        exact (Nat.div_lt_iff_lt_mul (by omega)).2 hm
      · rw [show a + 1 + i = a + (i + 1) by omega, h (i + 1) (by simp; omega)]; rfl

theorem rd_num {b : Bys} {n : Int} {a : Nat} (h : AtB b (numB n) a) (hn : numOk n = true) : rdN b ⟨a, false⟩ = (n.toNat, ⟨a + (numB n).length, false⟩) := by
  unfold numOk at hn
  simp only [Bool.and_eq_true, decide_eq_true_eq] at hn
  have h1 := enc_take 5 n.toNat 0 0 a h (by simp; omega) (by unfold topN; omega) (.inl rfl)
  unfold rdN takeN
  rw [if_neg (by simp), h1]
  simp
theorem take_num {b : Bys} {n : Int} {a : Nat} (h : AtB b (numB n) a) (hn : numOk n = true) : takeN b a = some (n.toNat, a + (numB n).length) := by
  unfold numOk at hn
  simp only [Bool.and_eq_true, decide_eq_true_eq] at hn
  have h1 := enc_take 5 n.toNat 0 0 a h (by simp; omega) (by unfold topN; omega) (.inl rfl)
  unfold takeN
  rw [h1]
  simp
theorem zag_zig {n : Int} (h : sgnOk n = true) : zagN (zigN n) = n ∧ zigN n < 1099511627776 := by
  unfold sgnOk at h
  simp only [Bool.and_eq_true, decide_eq_true_eq] at h
  unfold zagN zigN
  split <;> split <;> omega
theorem rd_sgn {b : Bys} {n : Int} {a : Nat} (h : AtB b (sgnB n) a) (hn : sgnOk n = true) : rdS b ⟨a, false⟩ = (n, ⟨a + (sgnB n).length, false⟩) := by
  obtain ⟨h1, h2⟩ := zag_zig hn
  have h3 := rd_num (n := (zigN n : Int)) (b := b) (a := a) (by simpa [numB] using h) (by unfold numOk; simp; omega)
  unfold rdS
  rw [h3]
  simp [h1, numB, sgnB]
theorem take_sgn {b : Bys} {n : Int} {a : Nat} (h : AtB b (sgnB n) a) (hn : sgnOk n = true) : takeS b a = some (n, a + (sgnB n).length) := by
  obtain ⟨h1, h2⟩ := zag_zig hn
  have h3 := take_num (n := (zigN n : Int)) (b := b) (a := a) (by simpa [numB] using h) (by unfold numOk; simp; omega)
  unfold takeS
  rw [h3]
  simp [h1, numB, sgnB]
theorem nat_num {n : Int} (h : numOk n = true) : (n.toNat : Int) = n := by
  unfold numOk at h; simp only [Bool.and_eq_true, decide_eq_true_eq] at h; omega

/-! ### Requests, votes, certificates, parts -/

def reqB (r : Rq) : Bys := numB r.client ++ (numB r.time ++ (numB r.kind ++ (sgnB r.key ++ (sgnB r.val ++ numB r.sl))))
def reqW (r : Rq) : Bool := numOk r.client && (numOk r.time && (numOk r.kind && (sgnOk r.key && (sgnOk r.val && numOk r.sl))))
def vtB (v : Int × Int) : Bys := numB v.1 ++ numB v.2
def vtW (v : Int × Int) : Bool := numOk v.1 && numOk v.2
def listB {α : Type} (one : α → Bys) (l : List α) : Bys := numB l.length ++ l.flatMap one
def listW {α : Type} (one : α → Bool) (l : List α) : Bool := decide (l.length ≤ 256) && l.all one
def certB (c : Cp) : Bys := numB c.view ++ (numB c.inst ++ (numB c.seq ++ (listB reqB c.rs ++ listB vtB c.vs)))
def certW (c : Cp) : Bool := numOk c.view && (numOk c.inst && (numOk c.seq && (listW reqW c.rs && listW vtW c.vs)))
def partB (p : Pa) : Bys := numB p.fm ++ (listB vtB p.vs ++ (listB certB p.cs ++ numB p.sl))
def partW (p : Pa) : Bool := numOk p.fm && (listW vtW p.vs && (listW certW p.cs && numOk p.sl))
def msB (m : Ms) : Bys := numB m.kind ++ (numB m.fm ++ (numB m.view ++ (numB m.inst ++ (numB m.seq ++ (sgnB m.res ++ (listB reqB m.rs ++ (listB vtB m.vs ++ (listB certB m.cs ++ listB partB m.ps))))))))
def msW (m : Ms) : Bool := numOk m.kind && (numOk m.fm && (numOk m.view && (numOk m.inst && (numOk m.seq && (sgnOk m.res && (listW reqW m.rs && (listW vtW m.vs && (listW certW m.cs && listW partW m.ps))))))))
/-- A message's bytes. -/
def bodyP (m : Ms) : Option Bys := if msW m && decide ((msB m).length ≤ 65536) then some (msB m) else none

theorem rd_req {b : Bys} {r : Rq} {a : Nat} (h : AtB b (reqB r) a) (hr : reqW r = true) : rdReq b ⟨a, false⟩ = (r, ⟨a + (reqB r).length, false⟩) := by
  unfold reqW at hr
  simp only [Bool.and_eq_true] at hr
  obtain ⟨g1, g2, g3, g4, g5, g6⟩ := hr
  unfold reqB at h
  obtain ⟨h1, h⟩ := atB_app h
  obtain ⟨h2, h⟩ := atB_app h
  obtain ⟨h3, h⟩ := atB_app h
  obtain ⟨h4, h⟩ := atB_app h
  obtain ⟨h5, h6⟩ := atB_app h
  unfold rdReq
  simp only [rd_num h1 g1, rd_num h2 g2, rd_num h3 g3, rd_sgn h4 g4, rd_sgn h5 g5, rd_num h6 g6, nat_num g1, nat_num g2, nat_num g3, nat_num g6]
  simp only [reqB, List.length_append, Nat.add_assoc]
theorem rd_vote {b : Bys} {v : Int × Int} {a : Nat} (h : AtB b (vtB v) a) (hv : vtW v = true) : rdVote b ⟨a, false⟩ = (v, ⟨a + (vtB v).length, false⟩) := by
  unfold vtW at hv
  simp only [Bool.and_eq_true] at hv
  unfold vtB at h
  obtain ⟨h1, h2⟩ := atB_app h
  unfold rdVote
  simp only [rd_num h1 hv.1, rd_num h2 hv.2, nat_num hv.1, nat_num hv.2]
  simp only [vtB, List.length_append, Nat.add_assoc]
theorem rd_go {α : Type} {b : Bys} {one : Rs → α × Rs} {enc : α → Bys} {ok : α → Bool} (hone : ∀ x a, AtB b (enc x) a → ok x = true → one ⟨a, false⟩ = (x, ⟨a + (enc x).length, false⟩)) :
    ∀ (l acc : List α) (a : Nat), AtB b (l.flatMap enc) a → l.all ok = true → rdGo one l.length acc ⟨a, false⟩ = (acc ++ l, ⟨a + (l.flatMap enc).length, false⟩)
  | [], acc, a, _, _ => by simp [rdGo]
  | x :: l, acc, a, h, hk => by
    rw [List.flatMap_cons] at h
    obtain ⟨h1, h2⟩ := atB_app h
    simp only [List.all_cons, Bool.and_eq_true] at hk
    rw [List.length_cons, rdGo_more _ _ _ _ rfl, hone x a h1 hk.1]
    simp only
    rw [rd_go hone l (acc ++ [x]) _ h2 hk.2]
    simp [Nat.add_assoc]
theorem rd_list {α : Type} {b : Bys} {one : Rs → α × Rs} {enc : α → Bys} {ok : α → Bool} (hone : ∀ x a, AtB b (enc x) a → ok x = true → one ⟨a, false⟩ = (x, ⟨a + (enc x).length, false⟩))
    {l : List α} {a : Nat} (h : AtB b (listB enc l) a) (hk : listW ok l = true) : rdL b one ⟨a, false⟩ = (l, ⟨a + (listB enc l).length, false⟩) := by
  unfold listW at hk
  simp only [Bool.and_eq_true, decide_eq_true_eq] at hk
  unfold listB at h
  obtain ⟨h1, h2⟩ := atB_app h
  unfold rdL
  rw [rd_num h1 (by unfold numOk; simp; omega)]
  simp only [Int.toNat_natCast]
  rw [if_neg (by omega), rd_go hone l [] _ h2 hk.2]
  simp [listB, Nat.add_assoc]
theorem whole_list {α : Type} {b : Bys} {one : Rs → α × Rs} {enc : α → Bys} {ok : α → Bool} (hone : ∀ x a, AtB b (enc x) a → ok x = true → one ⟨a, false⟩ = (x, ⟨a + (enc x).length, false⟩))
    {l : List α} {a : Nat} (h : AtB b (listB enc l) a) (hk : listW ok l = true) : wholeL b one a = some (l, a + (listB enc l).length) := by
  unfold wholeL
  rw [rd_list hone h hk]
  simp
theorem rd_cert {b : Bys} (c : Cp) (a : Nat) (h : AtB b (certB c) a) (hc : certW c = true) : rdCert b ⟨a, false⟩ = (c, ⟨a + (certB c).length, false⟩) := by
  unfold certW at hc
  simp only [Bool.and_eq_true] at hc
  obtain ⟨g1, g2, g3, g4, g5⟩ := hc
  unfold certB at h
  obtain ⟨h1, h⟩ := atB_app h
  obtain ⟨h2, h⟩ := atB_app h
  obtain ⟨h3, h⟩ := atB_app h
  obtain ⟨h4, h5⟩ := atB_app h
  unfold rdCert
  simp only [rd_num h1 g1, rd_num h2 g2, rd_num h3 g3, rd_list (fun x a => rd_req) h4 g4, rd_list (fun x a => rd_vote) h5 g5, nat_num g1, nat_num g2, nat_num g3]
  simp only [certB, List.length_append, Nat.add_assoc]
theorem rd_part {b : Bys} (p : Pa) (a : Nat) (h : AtB b (partB p) a) (hp : partW p = true) : rdPart b ⟨a, false⟩ = (p, ⟨a + (partB p).length, false⟩) := by
  unfold partW at hp
  simp only [Bool.and_eq_true] at hp
  obtain ⟨g1, g2, g3, g4⟩ := hp
  unfold partB at h
  obtain ⟨h1, h⟩ := atB_app h
  obtain ⟨h2, h⟩ := atB_app h
  obtain ⟨h3, h4⟩ := atB_app h
  unfold rdPart
  simp only [rd_num h1 g1, rd_list (fun x a => rd_vote) h2 g2, rd_list rd_cert h3 g3, rd_num h4 g4, nat_num g1, nat_num g4]
  simp only [partB, List.length_append, Nat.add_assoc]

theorem parse_body {m : Ms} (hm : msW m = true) (hl : (msB m).length ≤ 65536) : parseP (msB m) = some m := by
  have h : AtB (msB m) (msB m) 0 := fun i hi => by rw [Nat.zero_add]
  have hlen : (msB m).length = (msB m).length := rfl
  conv at hlen => rhs; unfold msB; simp only [List.length_append]
  generalize hb : msB m = b at h hl hlen ⊢
  unfold msW at hm
  simp only [Bool.and_eq_true] at hm
  obtain ⟨g0, g1, g2, g3, g4, g5, g6, g7, g8, g9⟩ := hm
  rw [← hb] at h
  unfold msB at h
  rw [show numB m.kind ++ (numB m.fm ++ (numB m.view ++ (numB m.inst ++ (numB m.seq ++ (sgnB m.res ++ (listB reqB m.rs ++ (listB vtB m.vs ++ (listB certB m.cs ++ listB partB m.ps)))))))) = msB m from rfl, hb] at h
  rw [← hb] at h
  conv at h => arg 2; unfold msB
  rw [hb] at h
  obtain ⟨h0, h⟩ := atB_app h
  obtain ⟨h1, h⟩ := atB_app h
  obtain ⟨h2, h⟩ := atB_app h
  obtain ⟨h3, h⟩ := atB_app h
  obtain ⟨h4, h⟩ := atB_app h
  obtain ⟨h5, h⟩ := atB_app h
  obtain ⟨h6, h⟩ := atB_app h
  obtain ⟨h7, h⟩ := atB_app h
  obtain ⟨h8, h9⟩ := atB_app h
  unfold parseP
  rw [if_neg (by omega)]
  unfold pm0; rw [take_num h0 g0]; simp only
  unfold pm1; rw [take_num h1 g1]; simp only
  unfold pm2; rw [take_num h2 g2]; simp only
  unfold pm3; rw [take_num h3 g3]; simp only
  unfold pm4; rw [take_num h4 g4]; simp only
  unfold pm5; rw [take_sgn h5 g5]; simp only
  unfold pm6; rw [whole_list (fun x a => rd_req) h6 g6]; simp only
  unfold pm7; rw [whole_list (fun x a => rd_vote) h7 g7]; simp only
  unfold pm8; rw [whole_list rd_cert h8 g8]; simp only
  unfold pm9; rw [whole_list rd_part h9 g9]; simp only
  rw [if_pos (by omega), nat_num g0, nat_num g1, nat_num g2, nat_num g3, nat_num g4]

theorem body_parse {m : Ms} {b : Bys} (h : bodyP m = some b) : parseP b = some m := by
  unfold bodyP at h
  split at h
  · rename_i hc
    simp only [Bool.and_eq_true, decide_eq_true_eq] at hc
    simp only [Option.some.injEq] at h
    subst h
    exact parse_body hc.1 hc.2
  · cases h
/-! ### Bytes are bytes -/
theorem num_byte {n : Int} (h : numOk n = true) : ∀ c ∈ numB n, c < 256 := by
  unfold numOk at h; simp only [Bool.and_eq_true, decide_eq_true_eq] at h
  exact encN_byte 5 _ (by simp; omega)
theorem sgn_byte {n : Int} (h : sgnOk n = true) : ∀ c ∈ sgnB n, c < 256 := encN_byte 5 _ (by have := (zag_zig h).2; simp; omega)
theorem app_byte {a b : Bys} (ha : ∀ c ∈ a, c < 256) (hb : ∀ c ∈ b, c < 256) : ∀ c ∈ a ++ b, c < 256 := fun c hc => (List.mem_append.1 hc).elim (ha c) (hb c)
theorem req_byte {r : Rq} (h : reqW r = true) : ∀ c ∈ reqB r, c < 256 := by
  unfold reqW at h; simp only [Bool.and_eq_true] at h
  obtain ⟨g1, g2, g3, g4, g5, g6⟩ := h
  exact app_byte (num_byte g1) (app_byte (num_byte g2) (app_byte (num_byte g3) (app_byte (sgn_byte g4) (app_byte (sgn_byte g5) (num_byte g6)))))
theorem vote_byte {v : Int × Int} (h : vtW v = true) : ∀ c ∈ vtB v, c < 256 := by
  unfold vtW at h; simp only [Bool.and_eq_true] at h
  exact app_byte (num_byte h.1) (num_byte h.2)
theorem list_byte {α : Type} {enc : α → Bys} {ok : α → Bool} (hone : ∀ x, ok x = true → ∀ c ∈ enc x, c < 256) {l : List α} (h : listW ok l = true) : ∀ c ∈ listB enc l, c < 256 := by
  unfold listW at h; simp only [Bool.and_eq_true, decide_eq_true_eq, List.all_eq_true] at h
  refine app_byte (num_byte (by unfold numOk; simp; omega)) (fun c hc => ?_)
  obtain ⟨x, hx, hc⟩ := List.mem_flatMap.1 hc
  exact hone x (h.2 x hx) c hc
theorem cert_byte {x : Cp} (h : certW x = true) : ∀ c ∈ certB x, c < 256 := by
  unfold certW at h; simp only [Bool.and_eq_true] at h
  obtain ⟨g1, g2, g3, g4, g5⟩ := h
  exact app_byte (num_byte g1) (app_byte (num_byte g2) (app_byte (num_byte g3) (app_byte (list_byte (fun x => req_byte) g4) (list_byte (fun x => vote_byte) g5))))
theorem part_byte {p : Pa} (h : partW p = true) : ∀ c ∈ partB p, c < 256 := by
  unfold partW at h; simp only [Bool.and_eq_true] at h
  obtain ⟨g1, g2, g3, g4⟩ := h
  exact app_byte (num_byte g1) (app_byte (list_byte (fun x => vote_byte) g2) (app_byte (list_byte (fun x => cert_byte) g3) (num_byte g4)))
theorem ms_byte {m : Ms} (h : msW m = true) : ∀ c ∈ msB m, c < 256 := by
  unfold msW at h; simp only [Bool.and_eq_true] at h
  obtain ⟨g0, g1, g2, g3, g4, g5, g6, g7, g8, g9⟩ := h
  exact app_byte (num_byte g0) (app_byte (num_byte g1) (app_byte (num_byte g2) (app_byte (num_byte g3) (app_byte (num_byte g4) (app_byte (sgn_byte g5) (app_byte (list_byte (fun x => req_byte) g6) (app_byte (list_byte (fun x => vote_byte) g7) (app_byte (list_byte (fun x => cert_byte) g8) (list_byte (fun x => part_byte) g9)))))))))
theorem body_byte {m : Ms} {b : Bys} (h : bodyP m = some b) : (∀ c ∈ b, c < 256) ∧ b.length ≤ 65536 := by
  unfold bodyP at h
  split at h
  · rename_i hc
    simp only [Bool.and_eq_true, decide_eq_true_eq] at hc
    simp only [Option.some.injEq] at h
    subst h
    exact ⟨ms_byte hc.1, hc.2⟩
  · cases h

end Go.Proofs.YtannckelmojkoaaGreat

/- The notary in general: a seal is given. -/
namespace Go.Proofs.YtannckelmojkoaaGreat
open Go.RowKit Go.Heap Go.Maps

section
variable {B : Nat} {w0 w W W' : World} {ss rs : List Res} {p nt nm : Nat} {l : Nt} {A : List Nat}

theorem own_ntAdd {W' : World} {x : Int × Bys} (h : Own B w0 W (ntR nm l :: ss)) (ho : W'.ownsMap Tryz.prog 194 (plainElem Tryz.prog 3) nm (l.length + 1) ((NtD l).put (klit x.1 (txt x.2)) (.lit (.int .i64 ((l.length : Int) + 1))))) (hg : W.grownBy W' (some nm)) : Own B w0 W' (ntR nm (l ++ [x]) :: ss) := by
  refine h.step (r' := ntR nm (l ++ [x])) ((Upd.refl _ _).grown hg (fun k hk => .inl (by cases hk; simp [ntR]))) ⟨[], ⟨?_, rfl⟩, by simp, fun k hk => Nat.lt_of_lt_of_le (h.lt k hk) hg.size⟩ (fun k hk => .inl hk)
  rw [show NtD (l ++ [x]) = ntF (l ++ [x]) 0 (.map []) from rfl, ntF_snoc, List.length_append]
  simpa using ho

set_option maxHeartbeats 2000000 in
set_option maxRecDepth 100000 in
theorem seal_any {party : Int} {bv : Value} {bs : Bys} (h : Own B w0 W (blk nt (noB nm) :: ntR nm l :: ss)) (hl : NtOk l) (hx : SOk (party, bs)) (hb : Byt W bv bs) (hn : l.length ≤ 1000000000) :
    Calls Tryz.prog 131 #[.pointer (some ⟨nt, 0, none⟩), .int .i64 party, bv] W fun e w' => e = .returned (.int .i64 (sealN l party bs)) ∧ Own B w0 w' (blk nt (noB nm) :: ntR nm (sealL l party bs) :: ss) := by
  have HCV : Hid (∀ w, Upd [] W w → (convert 60 9 bv).run Tryz.prog w = .ok (.string (txt bs)) w) := Lib.hid (fun w hu => run_conv (hb.upd hu))
  have hcv := HCV.out W (Upd.refl _ _)
  have H := Lib.hid h
  have HLK : Hid (∀ w, Upd [] W w → (Instr.lookup 150 (.map (some nm)) (.agg #[.int .i64 party, .string (txt bs)]) true).run Tryz.prog w = .ok (.tuple #[.int .i64 (findN l party bs), .bool (decide ((party, bs) ∈ l))]) w) := Lib.hid (fun w hu => nt_look (ntR_out (h.upd0 hu).drop.head) hl hx)
  obtain ⟨ao, cap, rfl, -, -⟩ := byt_form hb
  clear hb h
  go_enter Tryz.func131, Tryz.ntmps131
  go_wp2_with fail
  have h1 := H.out.box (.cells #[.int .i64 party, .string (txt bs)] 194 (0, 0))
  have hu1 : Upd [] W (W.alloc (.cells #[.int .i64 party, .string (txt bs)] 194 (0, 0))) := (Upd.refl _ _).alloc _
  generalize W.alloc _ = w1 at *
  generalize W.heap.size = b at *
  have x0 : w1.cell? ⟨b, 0, none⟩ = some (.int .i64 party) := cell_blk (h1.blkAt 0 rfl) 0 rfl
  have x1 : w1.cell? ⟨b, 1, none⟩ = some (.string (txt bs)) := cell_blk (h1.blkAt 0 rfl) 1 rfl
  have c0 : w1.cell? ⟨nt, 0, none⟩ = some (.map (some nm)) := cell_blk (h1.blkAt 1 rfl) 0 rfl
  have H1 := Lib.hid h1
  have hlk : ∀ n, (Instr.lookup 150 (.map (some nm)) (.agg #[.int .i64 party, .string (txt bs)]) true).run Tryz.prog (w1.drewN n) = .ok (.tuple #[.int .i64 (findN l party bs), .bool (decide ((party, bs) ∈ l))]) (w1.drewN n) := fun n => HLK.out _ (hu1.drewN n)
  clear h1 HLK HCV hcv
  have HU := Lib.hid hu1
  clear hu1
  by_cases hm : (party, bs) ∈ l
  · have e1 : findN l party bs = sealN l party bs := by unfold findN; rw [if_pos hm]
    have e2 : sealL l party bs = l := by unfold sealL; rw [if_pos hm]
    have e3 : decide ((party, bs) ∈ l) = true := by simp [hm]
    rw [e1, e3] at hlk
    have E2 := Lib.hid e2
    clear e1 e2 e3
    go_quiet (fail)
    go_wp2_with fail
    go_ret
    rw [E2.out]
    exact ⟨rfl, (H1.out.upd0 ((Upd.refl _ _).drewN _)).drop⟩
  · have e1 : findN l party bs = 0 := by unfold findN; rw [if_neg hm]
    have e2 : sealL l party bs = l ++ [(party, bs)] := by unfold sealL; rw [if_neg hm]
    have e3 : decide ((party, bs) ∈ l) = false := by simp [hm]
    have e4 : sealN l party bs = (l.length : Int) + 1 := by
      unfold sealN
      rw [List.idxOf_eq_length (by simpa using hm)]
    have hlen : ∀ ty n, (Builtin.len_ #[150] ty #[.map (some nm)]).run Tryz.prog (w1.drewN n) = .ok (.int .i64 l.length) (w1.drewN n) := fun ty n => by
      rw [(ntR_out (H1.out.upd0 ((Upd.refl _ _).drewN n)).drop.drop.head).len Tryz.umap ty, nt_size hl]
    rw [e1, e3] at hlk
    have E2 := Lib.hid e2
    have E4 := Lib.hid e4
    clear e1 e2 e3 e4
    go_quiet (fail)
    have hlt : (l.length : Int) ≤ 1000000000 := by omega
    go_wp2_with fail
    have hmap : ∀ n, ((w1.drewN n).drew).ownsMap Tryz.prog 194 (plainElem Tryz.prog 3) nm l.length (NtD l) := fun n => ntR_out (H1.out.upd0 ((Upd.refl _ _).drewN n).drew).drop.drop.head
    have hkey := hx.key
    unfold nkey at hkey
    simp only at hkey
    have hwf : (Lit.int .i64 ((l.length : Int) + 1)).wf = true := WalkArith.wf_i64 (by omega)
    refine Mix.wp_text2 (by kernel_rfl) (by kernel_rfl) ?_
    go_wp2_with (first | (at_mapUpdate; refine wpList_mapUpdate_own _ rfl _ _ _ 150 rfl 194 3 Tryz.keylaw Tryz.umap _ nm l.length _ rfl (hmap _) (by unfold maxLen; omega) _ _ _ rfl rfl hkey _ [] (plainElem_int Tryz.pk1 hwf) ?_; intro w2 ho2 hg2) | go_in)
    have H2 := Lib.hid (own_ntAdd (x := (party, bs)) (H1.out.upd0 ((Upd.refl _ _).drewN nq).drew).drop.swap ho2 hg2).swap
    clear ho2 hg2 hmap
    go_wp2_with fail
    refine ⟨by rfl, ?_⟩
    go_wp2_with fail
    go_ret
    rw [E2.out, E4.out]
    exact ⟨rfl, H2.out⟩

end
end Go.Proofs.YtannckelmojkoaaGreat

/- Appends to a row that stands anywhere in a list of resources; a resource brought to the head and back. No program. -/
namespace Go.Heap
open Go Go.RowKit

section
variable {B : Nat} {w0 w W W' : World} {rs ss : List Res} {r : Res} {E sz n m : Nat} {v v' : Value} {xs ys : List Value}

theorem Own.front (h : Own B w0 W rs) (k : Nat) (e : rs[k]? = some r) (e2 : rs.eraseIdx k = ss) : Own B w0 W (r :: ss) := by
  obtain ⟨hk, rfl⟩ := List.getElem?_eq_some_iff.1 e
  subst e2
  exact h.perm (perm_at rs k hk)
theorem perm_insert {α : Type} (x : α) : ∀ (k : Nat) (l : List α), k ≤ l.length → (x :: l).Perm (l.insertIdx k x)
  | 0, l, _ => by simp
  | k + 1, [], h => by simp at h
  | k + 1, y :: l, h => by
    rw [List.insertIdx_succ_cons]
    exact (List.Perm.swap y x l).trans ((perm_insert x k l (by simpa using h)).cons y)
theorem Own.back (h : Own B w0 W (r :: ss)) (k : Nat) (hk : k ≤ ss.length) (e : ss.insertIdx k r = rs) : Own B w0 W rs := by
  subst e
  exact h.perm (perm_insert r k ss hk)

section
variable {P : Program} {ops : Array Oper} {rest : List Oper} {o : Oper} {a : Act} {Q : Exit → Act → World → Prop}

/-- append(s, x): x one element that lies in a block of its own. -/
theorem wpList_push (hgd : o.guard = none) (s x : Operand) (t : TypeId)
    (ho : o.op = .call { callee := .builtin .append, args := #[s, x], argTypes := #[t, t] })
    (e : TypeId) (i : TypeInfo) (z : Value) (size bytes : Nat) (ht : P.underlying t = some (.slice e)) (hi : P.info? e = some i) (hz : i.zero = some z)
    (hsize : i.size = size) (hby : i.bytes = bytes) (hzs : z.cells.size = size) (hsz : 0 < size)
    (hw : Own B w0 W rs) (k : Nat) (v : Value) (n : Nat) (xs : List Value) (hk : rs[k]? = some (ownR e size v n xs)) (hs : a.eval s = v)
    (b : Nat) (cs : Array Value) (T : TypeId) (fz : Nat × Nat) (hx : a.eval x = .slice (some ⟨b, 0, none⟩) 1 1) (hb : W.heap[b]? = some (.cells cs T fz)) (hl : cs.size = size) (h1 : ∀ u ∈ cs.toList, u.oneCell' = true)
    (h63 : n + 1 ≤ maxLen) (hbytes : (n + 1) * bytes ≤ 140737488355328)
    (h : ∀ g cap w', Own B w0 w' (rs.set k (ownR e size (.slice (some ⟨g, 0, none⟩) (n + 1) cap) (n + 1) (xs ++ cs.toList))) → wpList P ops Q rest (a.put o.dst (.slice (some ⟨g, 0, none⟩) (n + 1) cap)) w') : wpList P ops Q (o :: rest) a W := by
  refine wpList_append_lies W hgd s x t ho 0 e i z size bytes ht hi hz hsize hby hzs hsz v n xs hs (ownR_owns (hw.get k hk)) ⟨b, 0, none⟩ 1 1 cs.toList hx (by simp [hl]) (World.news_of_block hb) h1 (by decide) h63 hbytes (Nat.zero_le _) _ rfl ?_
  intro g cap w' hown hgrow hat _
  exact h g cap w' (hw.growAt k hk hgrow hat hown)

/-- append(s, x...): x any slice that can be read. -/
theorem wpList_pushAll (hgd : o.guard = none) (s x : Operand) (t : TypeId)
    (ho : o.op = .call { callee := .builtin .append, args := #[s, x], argTypes := #[t, t] })
    (e : TypeId) (i : TypeInfo) (z : Value) (size bytes : Nat) (ht : P.underlying t = some (.slice e)) (hi : P.info? e = some i) (hz : i.zero = some z)
    (hsize : i.size = size) (hby : i.bytes = bytes) (hzs : z.cells.size = size) (hsz : 0 < size)
    (hw : Own B w0 W rs) (k : Nat) (v : Value) (n : Nat) (xs : List Value) (hk : rs[k]? = some (ownR e size v n xs)) (hs : a.eval s = v)
    (u : Value) (m : Nat) (ys : List Value) (hx : a.eval x = u) (hr : Reads W u size m ys) (h1 : ∀ u ∈ ys, u.oneCell' = true) (h63 : n + m ≤ maxLen) (hbytes : (n + m) * bytes ≤ 140737488355328)
    (h : ∀ ao' cap' w', Own B w0 w' (rs.set k (ownR e size (.slice ao' (n + m) cap') (n + m) (xs ++ ys))) → wpList P ops Q rest (a.put o.dst (.slice ao' (n + m) cap')) w') : wpList P ops Q (o :: rest) a W := by
  obtain ⟨hlt, hke⟩ := List.getElem?_eq_some_iff.1 hk
  have h2 : Own B w0 W (ownR e size v n xs :: rs.eraseIdx k) := hke ▸ hw.perm (perm_at rs k hlt)
  refine wpList_append_row hgd s x t ho e i z size bytes ht hi hz hsize hby hzs hsz v n xs hs h2 u m ys hx hr h1 h63 hbytes ?_
  intro v' w' h3
  obtain ⟨ao', cap', rfl⟩ : ∃ ao' cap', v' = .slice ao' (n + m) cap' := by
    rcases (ownR_owns h3.head).2 with ⟨h5, h6⟩ | ⟨g, cap, cur, h5, -⟩
    · exact ⟨none, 0, by rw [h6]; exact h5⟩
    · exact ⟨_, _, h5⟩
  exact h ao' cap' w' (h3.perm (perm_set rs k hlt _).symm)
end

end
end Go.Heap

/- code: a number's bytes are written. -/
namespace Go.Proofs.YtannckelmojkoaaGreat
open Go.RowKit Go.Heap

theorem Tryz.infoU8 : (Tryz.prog.info? 5).map (fun i => (i.zero, i.size, i.bytes)) = some (some (.int .u8 0), 1, 1) := by kernel_rfl
abbrev bysC (b : Bys) : List Value := b.map fun c : Nat => Value.int .u8 (c : Int)
abbrev bysR (v : Value) (b : Bys) : Res := ownR 5 1 v b.length (bysC b)
def numX (n : Int) : Bys := if numOk n then numB n else []
def zigX (n : Int) : Int := if sgnOk n then (zigN n : Int) else 0
def sgnX (n : Int) : Bys := if sgnOk n then sgnB n else []

theorem encN_more {f n : Nat} (h : 128 ≤ n) : encN (f + 1) n = (n % 128 + 128) :: encN f (n / 128) := by
  conv => lhs; unfold encN
  rw [if_neg (by omega)]
theorem encN_last {f n : Nat} (h : n < 128) : encN f n = [n] := by
  cases f with
  | zero => rfl
  | succ f => unfold encN; rw [if_pos h]
theorem bysC_one (b : Bys) : ∀ u ∈ bysC b, u.oneCell' = true := by
  intro u hu
  obtain ⟨c, -, rfl⟩ := List.mem_map.1 hu
  rfl
theorem u8_in {x : Int} (h0 : 0 ≤ x) (h1 : x < 256) : IntKind.u8.wrap x = x := by
  unfold IntKind.wrap
  simp [IntKind.bits, IntKind.signed]
  omega

section
variable {B : Nat} {w0 w W W' : World} {ss rs : List Res}

set_option maxHeartbeats 2000000 in
theorem cnum_any (n : Int) (h : Own B w0 W ss) : Calls Tryz.prog 274 #[.int .i64 n] W fun e w' => ∃ v, e = .returned (.tuple #[v, .bool (numOk n)]) ∧ Own B w0 w' (bysR v (numX n) :: ss) := by
  obtain ⟨i0, hi, hz0, hz1, hz2⟩ := info_parts Tryz.infoU8
  by_cases h1 : n < 0
  · have HE : Hid (numOk n = false ∧ Own B w0 W (bysR (.slice none 0 0) (numX n) :: ss)) := Lib.hid (by
      have e : numOk n = false := by unfold numOk; simp; omega
      refine ⟨e, ?_⟩
      unfold numX
      rw [e]
      exact h.row0)
    clear h
    go_enter Tryz.func274, Tryz.ntmps274
    go_wp2_with fail
    go_ret2
    rw [HE.out.1]
    exact ⟨_, rfl, HE.out.2⟩
  by_cases h2 : 1099511627776 ≤ n
  · have h1' : decide (n < 0) = false := by simp; omega
    have HE : Hid (numOk n = false ∧ Own B w0 W (bysR (.slice none 0 0) (numX n) :: ss)) := Lib.hid (by
      have e : numOk n = false := by unfold numOk; simp; omega
      refine ⟨e, ?_⟩
      unfold numX
      rw [e]
      exact h.row0)
    clear h h1
    go_enter Tryz.func274, Tryz.ntmps274
    go_wp2_with fail
    go_ret2
    rw [HE.out.1]
    exact ⟨_, rfl, HE.out.2⟩
  have h1' : decide (n < 0) = false := by simp; omega
  have h2' : decide (1099511627776 ≤ n) = false := by simp; omega
  obtain ⟨m0, rfl⟩ : ∃ m : Nat, n = m := ⟨n.toNat, by omega⟩
  have hm0 : m0 < 128 ^ (5 + 1) := by omega
  have HE : Hid (numOk (m0 : Int) = true ∧ numX (m0 : Int) = encN 5 m0) := Lib.hid (by
    have e : numOk (m0 : Int) = true := by unfold numOk; simp; omega
    unfold numX
    rw [e]
    exact ⟨rfl, by simp [numB]⟩)
  have H := Lib.hid (h.row0 (E := 5) (sz := 1))
  clear h h1 h2
  go_enter Tryz.func274, Tryz.ntmps274
  go_wp2_with fail
  go_loopw [0, 4] (fun nv v wr => ∃ (m f : Nat) (acc : Bys), nv = .int .i64 m ∧ m < 128 ^ (f + 1) ∧ f ≤ 5 ∧ acc.length ≤ 10 - f ∧ acc ++ encN f m = encN 5 m0 ∧ Hid (Own B w0 wr (bysR v acc :: ss))) (fun nv _ _ => (intOf nv).toNat)
  case atStart => exact ⟨m0, 5, [], rfl, hm0, by omega, by simp, rfl, H⟩
  case round =>
    clear H hm0
    obtain ⟨m, f, acc, rfl, hm, hf, ha, hacc, H⟩ := hrel
    have hmI : (m : Int) < 4398046511104 := by
      have : m < 128 ^ 6 := Nat.lt_of_lt_of_le hm (Nat.pow_le_pow_right (by omega) (by omega))
      omega
    by_cases hlt : m < 128
    · have hd : decide (128 ≤ (m : Int)) = false := by simp; omega
      have hw : IntKind.u8.wrap (m : Int) = (m : Int) := u8_in (by omega) (by omega)
      have HA := Lib.hid (H.out.alloc (.cells #[.int .u8 (m : Int)] 5 (0, 0)))
      have HN := Lib.hid (heap_alloc_new wr (.cells #[.int .u8 (m : Int)] 5 (0, 0)))
      have ha2 : acc.length ≤ 10 := by omega
      rw [encN_last hlt] at hacc
      have HX : Hid (numX (m0 : Int) = acc ++ [m]) := Lib.hid (HE.out.2.trans hacc.symm)
      have HK := Lib.hid HE.out.1
      clear hacc H HE hm ha hmI
      go_wp2_with (first | (at_builtin; refine wpList_push rfl (.tmp 22) (.tmp 25) 60 rfl 5 i0 (.int .u8 0) 1 1 Tryz.underlying60 hi hz0 hz1 hz2 rfl (by decide) HA.out 0 u4 acc.length (bysC acc) rfl rfl wr.heap.size #[.int .u8 (m : Int)] 5 (0, 0) rfl HN.out rfl (by simp [Value.oneCell']) (by unfold maxLen; omega) (by omega) ?_; intro g cap w1 h1) | go_in)
      have H1 := Lib.hid h1
      clear h1
      go_wp2_with fail
      go_ret2
      rw [HK.out, HX.out]
      exact ⟨_, rfl, by have := H1.out; simpa [bysR, bysC] using this⟩
    · have hd : 128 ≤ (m : Int) := by omega
      have e1 : (m : Int).tmod 128 = ((m % 128 : Nat) : Int) := by rw [Int.tmod_eq_emod_of_nonneg (by omega)]; omega
      have e2 : (m : Int).tdiv 128 = ((m / 128 : Nat) : Int) := by rw [Int.tdiv_eq_ediv_of_nonneg (by omega)]; omega
      have hlo : m % 128 < 128 := by omega
      generalize hr : m % 128 = r at *
      generalize hq : m / 128 = q at *
      have hw : IntKind.u8.wrap ((r : Int) + 128) = ((r + 128 : Nat) : Int) := by rw [u8_in (by omega) (by omega)]; omega
      have HA := Lib.hid (H.out.alloc (.cells #[.int .u8 ((r : Int) + 128)] 5 (0, 0)))
      have HN := Lib.hid (heap_alloc_new wr (.cells #[.int .u8 ((r : Int) + 128)] 5 (0, 0)))
      have ha2 : acc.length ≤ 10 := by omega
      go_wp2_with (first | (at_builtin; refine wpList_push rfl (.tmp 13) (.tmp 18) 60 rfl 5 i0 (.int .u8 0) 1 1 Tryz.underlying60 hi hz0 hz1 hz2 rfl (by decide) HA.out 0 u4 acc.length (bysC acc) rfl rfl wr.heap.size #[.int .u8 ((r : Int) + 128)] 5 (0, 0) rfl HN.out rfl (by simp [Value.oneCell']) (by unfold maxLen; omega) (by omega) ?_; intro g cap w1 h1) | go_in)
      have H1 := Lib.hid h1
      clear h1 HA HN H
      go_wp2_with fail
      go_roundw
      case rel =>
        obtain ⟨f', rfl⟩ : ∃ f', f = f' + 1 := by
          cases f with
          | zero => simp at hm; omega
          | succ f => exact ⟨f, rfl⟩
        refine ⟨q, f', acc ++ [r + 128], rfl, ?_, by omega, by simp; omega, ?_, Lib.hid ?_⟩
        · rw [Nat.pow_succ] at hm; rw [← hq]; exact (Nat.div_lt_iff_lt_mul (by omega)).2 hm
        · rw [← hacc, encN_more (by omega : 128 ≤ m), hr, hq]; simp
        · have := H1.out
          simpa [bysR, bysC] using this
      case measure => simp [intOf]; omega

theorem zig_any (n : Int) : Calls Tryz.prog 294 #[.int .i64 n] W fun e w' => e = .returned (.int .i64 (zigX n)) ∧ W = w' := by
  by_cases h1 : n < -549755813888
  · have HE : Hid (zigX n = 0) := Lib.hid (by unfold zigX; rw [show sgnOk n = false by unfold sgnOk; simp; omega]; rfl)
    go_enter Tryz.func294, Tryz.ntmps294
    go_wp2_with fail
    go_ret
    rw [HE.out]
    exact ⟨rfl, rfl⟩
  have h1' : decide (n < -549755813888) = false := by simp; omega
  by_cases h2 : 549755813888 ≤ n
  · have HE : Hid (zigX n = 0) := Lib.hid (by unfold zigX; rw [show sgnOk n = false by unfold sgnOk; simp; omega]; rfl)
    go_enter Tryz.func294, Tryz.ntmps294
    go_wp2_with fail
    go_ret
    rw [HE.out]
    exact ⟨rfl, rfl⟩
  have h2' : decide (549755813888 ≤ n) = false := by simp; omega
  have hk : sgnOk n = true := by unfold sgnOk; simp; omega
  by_cases h3 : n < 0
  · have HE : Hid (zigX n = -2 * n - 1) := Lib.hid (by unfold zigX zigN; rw [hk, if_pos rfl, if_pos h3]; omega)
    clear hk
    go_enter Tryz.func294, Tryz.ntmps294
    go_wp2_with fail
    go_ret
    rw [HE.out]
    exact ⟨rfl, rfl⟩
  · have h3' : decide (n < 0) = false := by simp; omega
    have HE : Hid (zigX n = 2 * n) := Lib.hid (by unfold zigX zigN; rw [hk, if_pos rfl, if_neg h3]; omega)
    clear hk
    go_enter Tryz.func294, Tryz.ntmps294
    go_wp2_with fail
    go_ret
    rw [HE.out]
    exact ⟨rfl, rfl⟩

theorem csgn_any (n : Int) (h : Own B w0 W ss) : Calls Tryz.prog 275 #[.int .i64 n] W fun e w' => ∃ v, e = .returned (.tuple #[v, .bool (sgnOk n)]) ∧ Own B w0 w' (bysR v (sgnX n) :: ss) := by
  by_cases h1 : n < -549755813888
  · have HE : Hid (sgnOk n = false ∧ Own B w0 W (bysR (.slice none 0 0) (sgnX n) :: ss)) := Lib.hid (by
      have e : sgnOk n = false := by unfold sgnOk; simp; omega
      refine ⟨e, ?_⟩
      unfold sgnX
      rw [e]
      exact h.row0)
    clear h
    go_enter Tryz.func275, Tryz.ntmps275
    go_wp2_with fail
    go_ret2
    rw [HE.out.1]
    exact ⟨_, rfl, HE.out.2⟩
  have h1' : decide (n < -549755813888) = false := by simp; omega
  by_cases h2 : 549755813888 ≤ n
  · have HE : Hid (sgnOk n = false ∧ Own B w0 W (bysR (.slice none 0 0) (sgnX n) :: ss)) := Lib.hid (by
      have e : sgnOk n = false := by unfold sgnOk; simp; omega
      refine ⟨e, ?_⟩
      unfold sgnX
      rw [e]
      exact h.row0)
    clear h h1
    go_enter Tryz.func275, Tryz.ntmps275
    go_wp2_with fail
    go_ret2
    rw [HE.out.1]
    exact ⟨_, rfl, HE.out.2⟩
  have h2' : decide (549755813888 ≤ n) = false := by simp; omega
  have hk : sgnOk n = true := by unfold sgnOk; simp; omega
  have HZ := Lib.hid (zig_any (W := W) n)
  rw [show zigX n = (zigN n : Int) by unfold zigX; rw [hk, if_pos rfl]] at HZ
  have hn : numOk (zigN n : Int) = true := by have := (zag_zig hk).2; unfold numOk; simp; omega
  have HN := Lib.hid (cnum_any (zigN n : Int) h)
  rw [hn, show numX (zigN n : Int) = sgnX n by unfold numX sgnX; rw [hn, hk]; simp [numB, sgnB]] at HN
  rw [hk]
  clear h hk hn
  generalize (zigN n : Int) = z at *
  go_enter Tryz.func275, Tryz.ntmps275
  go_wp2_with fail
  refine HZ.out.mono ?_
  rintro e w' ⟨rfl, rfl⟩
  go_wp2_with fail
  refine HN.out.mono ?_
  rintro e w' ⟨v, rfl, ho⟩
  have HO := Lib.hid ho
  clear ho HN HZ
  go_wp2_with fail
  go_ret2
  exact ⟨_, rfl, HO.out⟩

end
end Go.Proofs.YtannckelmojkoaaGreat

/- pack: what a writer puts: numbers, requests, votes. -/
namespace Go.Proofs.YtannckelmojkoaaGreat
open Go.RowKit Go.Heap

/-- What was written, and whether something could not be. -/
structure Wr where
  out : Bys
  bad : Bool
def wPut (s : Wr) (b : Bys) (ok : Bool) : Wr := ⟨s.out ++ b, s.bad || !ok⟩
def wNum (s : Wr) (n : Int) : Wr := wPut s (numX n) (numOk n)
def wSgn (s : Wr) (n : Int) : Wr := wPut s (sgnX n) (sgnOk n)
def wReq (s : Wr) (r : Rq) : Wr := wNum (wSgn (wSgn (wNum (wNum (wNum s r.client) r.time) r.kind) r.key) r.val) r.sl
def wVote (s : Wr) (v : Int × Int) : Wr := wNum (wNum s v.1) v.2
abbrev wB (p : Nat) (v : Value) (bad : Bool) : Res := blk p (.cells #[v, .bool bad] 377 (0, 0))
abbrev wrL (p : Nat) (v : Value) (s : Wr) (l : List Res) : List Res := wB p v s.bad :: bysR v s.out :: l
abbrev intC (l : List Int) : List Value := l.map fun n => Value.int .i64 n

theorem numX_len (n : Int) : (numX n).length ≤ 6 := by
  unfold numX numB; split
  · exact (encN_len 5 _).2
  · simp
theorem sgnX_len (n : Int) : (sgnX n).length ≤ 6 := by
  unfold sgnX sgnB; split
  · exact (encN_len 5 _).2
  · simp
theorem wNum_len (s : Wr) (n : Int) : (wNum s n).out.length ≤ s.out.length + 6 := by
  have := numX_len n
  simp [wNum, wPut]; omega
theorem wSgn_len (s : Wr) (n : Int) : (wSgn s n).out.length ≤ s.out.length + 6 := by
  have := sgnX_len n
  simp [wSgn, wPut]; omega
theorem wNums_len (l : List Int) : ∀ s : Wr, (l.foldl wNum s).out.length ≤ s.out.length + 6 * l.length := by
  induction l with
  | nil => intro s; simp
  | cons n l ih => intro s; have h1 := ih (wNum s n); have h2 := wNum_len s n; simp only [List.foldl_cons, List.length_cons]; omega
theorem wSgns_len (l : List Int) : ∀ s : Wr, (l.foldl wSgn s).out.length ≤ s.out.length + 6 * l.length := by
  induction l with
  | nil => intro s; simp
  | cons n l ih => intro s; have h1 := ih (wSgn s n); have h2 := wSgn_len s n; simp only [List.foldl_cons, List.length_cons]; omega

section
variable {B : Nat} {w0 w W W' : World} {ss rs : List Res} {p : Nat} {v bv : Value} {s : Wr}

theorem red_reads {v : Value} {sz n k : Nat} {xs : List Value} (h : Own B w0 W rs) (e : rs[k]? = some (redR v sz n xs)) : Reads W v sz n xs := redR_out (h.get k e)
theorem bys_reads {v : Value} {b : Bys} {k : Nat} (h : Own B w0 W rs) (e : rs[k]? = some (bysR v b)) : Reads W v 1 b.length (bysC b) := owns_reads (ownR_owns (h.get k e))

set_option maxHeartbeats 2000000 in
set_option maxRecDepth 100000 in
theorem put_any {bs : Bys} {ok : Bool} (h : Own B w0 W (wrL p v s (bysR bv bs :: ss))) (hl : s.out.length ≤ 1000000000000) (hb : bs.length ≤ 100000) :
    Calls Tryz.prog 310 #[.pointer (some ⟨p, 0, none⟩), bv, .bool ok] W fun e w' => e = .returned (.tuple #[]) ∧ ∃ v', Own B w0 w' (wrL p v' (wPut s bs ok) (bysR bv bs :: ss)) := by
  obtain ⟨i0, hi, hz0, hz1, hz2⟩ := info_parts Tryz.infoU8
  obtain ⟨out, bad⟩ := s
  simp only at hl h
  obtain ⟨ao, cap, rfl, -, -⟩ := bys_reads (k := 1) h rfl
  obtain ⟨bo, bcap, rfl, -, -⟩ := bys_reads (k := 2) h rfl
  have x0 : W.cell? ⟨p, 0, none⟩ = some (.slice ao out.length cap) := cell_blk h.blk_out 0 rfl
  have x1 : W.cell? ⟨p, 1, none⟩ = some (.bool bad) := cell_blk h.blk_out 1 rfl
  have z1 := block_frozen h.blk_out 1
  have HS : ∀ b : Bool, Hid (Own B w0 (W.setCell ⟨p, 1, none⟩ (.bool b)) (wrL p (.slice ao out.length cap) ⟨out, b⟩ (bysR (.slice bo bs.length bcap) bs :: ss))) := fun b => Lib.hid (Own.storeTo h 1 (.bool b) rfl)
  have HF : Hid (∀ v' w', Own B w0 w' (wrL p (.slice ao out.length cap) ⟨out ++ bs, bad || !ok⟩ (bysR (.slice bo bs.length bcap) bs :: ss)) → Own B w0 (w'.setCell ⟨p, 0, none⟩ v') (wB p v' (bad || !ok) :: bysR (.slice ao out.length cap) (out ++ bs) :: bysR (.slice bo bs.length bcap) bs :: ss)) := Lib.hid (fun v' w' h' => Own.storeTo h' 0 v' rfl)
  have H1 := HS (bad || !ok)
  have hone := bysC_one bs
  have H1b := Lib.hid (bys_reads (k := 2) H1.out rfl)
  have HW : Hid (wPut ⟨out, bad⟩ bs ok = ⟨out ++ bs, bad || !ok⟩) := Lib.hid rfl
  have x2 : (W.setCell ⟨p, 1, none⟩ (.bool (bad || !ok))).cell? ⟨p, 0, none⟩ = some (.slice ao out.length cap) := cell_blk H1.out.blk_out 0 rfl
  clear h HS
  cases bad <;> cases ok <;> (
    simp only [Bool.true_or, Bool.false_or, Bool.or_false, Bool.or_true, Bool.not_true, Bool.not_false] at *
    go_enter Tryz.func310, Tryz.ntmps310
    go_wp2_with (at_builtin; refine wpList_pushAll rfl (.tmp 21) (.tmp 22) 60 rfl 5 i0 (.int .u8 0) 1 1 Tryz.underlying60 hi hz0 hz1 hz2 rfl (by decide) H1.out 1 (.slice ao out.length cap) out.length (bysC out) rfl rfl (.slice bo bs.length bcap) bs.length (bysC bs) rfl H1b.out hone (by unfold maxLen; omega) (by omega) ?_)
    intro ao' cap' w2 h2
    have x3 : w2.cell? ⟨p, 0, none⟩ = some (.slice ao out.length cap) := cell_blk (h2.blkAt 0 rfl) 0 rfl
    have z3 := block_frozen (h2.blkAt 0 rfl) 0
    have h3 : Own B w0 w2 (wB p (.slice ao out.length cap) _ :: ownR 5 1 (.slice ao' (out.length + bs.length) cap') (out.length + bs.length) (bysC out ++ bysC bs) :: bysR (.slice bo bs.length bcap) bs :: ss) := h2
    have H3 := Lib.hid (Own.storeTo h3 0 (.slice ao' (out.length + bs.length) cap') rfl)
    clear h2 h3 H1 H1b
    go_wp2_with fail
    refine bodyPost_end (results_none rfl _ _ _) rfl ?_
    rw [HW.out]
    refine ⟨rfl, .slice ao' (out.length + bs.length) cap', ?_⟩
    have := H3.out
    simpa [wrL, bysR, bysC, setIn] using this)

theorem foldl_take {α β : Type} (f : β → α → β) : ∀ (l : List α) (k : Nat) (hk : k < l.length) (s : β), (l.take (k + 1)).foldl f s = f ((l.take k).foldl f s) l[k]
  | a :: l, 0, _, s => rfl
  | a :: l, k + 1, h, s => by simpa using foldl_take f l k (by simpa using h) (f s a)

set_option maxHeartbeats 2000000 in
theorem numbers_any {l : List Int} {lv : Value} (h : Own B w0 W (wrL p v s (redR lv 1 l.length (intC l) :: ss))) (hl : s.out.length + 6 * l.length ≤ 1000000000000) (hll : l.length ≤ 1000) :
    Calls Tryz.prog 307 #[.pointer (some ⟨p, 0, none⟩), lv] W fun e w' => e = .returned (.tuple #[]) ∧ ∃ v', Own B w0 w' (wrL p v' (l.foldl wNum s) (redR lv 1 l.length (intC l) :: ss)) := by
  have H := Lib.hid h
  obtain ⟨ao, cap, rfl, hcap, -⟩ := red_reads (k := 2) h rfl
  clear h
  go_enter Tryz.func307, Tryz.ntmps307
  go_wp2_with fail
  go_loopw [8] (fun i wr => ∃ (k : Nat) (v : Value), i = .int .i64 k ∧ k ≤ l.length ∧ Hid (Own B w0 wr (wrL p v ((l.take k).foldl wNum s) (redR (.slice ao l.length cap) 1 l.length (intC l) :: ss)))) (fun i _ => l.length - (intOf i).toNat)
  case atStart => exact ⟨0, v, rfl, by omega, H⟩
  case round =>
    clear H
    obtain ⟨k, v, rfl, hk, H⟩ := hrel
    by_cases hlt : k < l.length
    · have hkI : (k : Int) < (l.length : Int) := by omega
      have hk0 : (0 : Int) ≤ (k : Int) := by omega
      have hcI : (l.length : Int) ≤ (cap : Int) := by omega
      obtain ⟨ao', cap', e0, -, -, -, -, h5⟩ := red_reads (k := 2) H.out rfl
      simp only [Value.slice.injEq, true_and] at e0
      obtain ⟨rfl, -⟩ := e0
      obtain ⟨b, o, rfl, -, hc⟩ := h5 (by omega)
      have r0 : wr.cell? ⟨b, o + k, none⟩ = some (.int .i64 l[k]) := by rw [hc k (by omega)]; simp [hlt]
      have HN := Lib.hid (cnum_any l[k] H.out)
      have hlen := wNums_len (l.take k) s
      have hl2 : ((l.take k).foldl wNum s).out.length ≤ 1000000000000 := by simp at hlen; omega
      have HP : Hid (∀ v2 w2, Own B w0 w2 (bysR v2 (numX l[k]) :: wrL p v ((l.take k).foldl wNum s) (redR (.slice (some ⟨b, o, none⟩) l.length cap) 1 l.length (intC l) :: ss)) → Calls Tryz.prog 310 #[.pointer (some ⟨p, 0, none⟩), v2, .bool (numOk l[k])] w2 fun e w' => e = .returned (.tuple #[]) ∧ ∃ v', Own B w0 w' (wrL p v' ((l.take (k + 1)).foldl wNum s) (redR (.slice (some ⟨b, o, none⟩) l.length cap) 1 l.length (intC l) :: ss))) :=
        Lib.hid (fun v2 w2 h2 => (put_any h2.rot' hl2 (by have := numX_len l[k]; omega)).mono (by
          rintro e w' ⟨rfl, v', h3⟩
          refine ⟨rfl, v', ?_⟩
          rw [foldl_take _ _ _ hlt]
          exact h3.dropAt 2 (by simp)))
      clear hc h5 hl2 hlen H hk
      generalize l[k] = n at *
      generalize numOk n = ok at *
      go_wp2_with fail
      refine HN.out.mono ?_
      rintro e w1 ⟨v2, rfl, h2⟩
      have HP2 := Lib.hid (HP.out v2 w1 h2)
      clear h2 HN HP
      go_wp2_with fail
      refine HP2.out.mono ?_
      rintro e w2 ⟨rfl, v3, h3⟩
      have H3 := Lib.hid h3
      clear h3 HP2 r0
      go_wp2_with fail
      go_roundw
      case rel => exact ⟨k + 1, v3, by go_num, by omega, H3⟩
      case measure => simp [intOf]; omega
    · have hkI : decide ((k : Int) < (l.length : Int)) = false := by simp; omega
      have e : k = l.length := by omega
      subst e
      go_wp2_with fail
      refine bodyPost_end (results_none rfl _ _ _) rfl ?_
      have := H.out
      rw [List.take_length] at this
      exact ⟨rfl, v, this⟩

set_option maxHeartbeats 2000000 in
theorem signed_nums {l : List Int} {lv : Value} (h : Own B w0 W (wrL p v s (redR lv 1 l.length (intC l) :: ss))) (hl : s.out.length + 6 * l.length ≤ 1000000000000) (hll : l.length ≤ 1000) :
    Calls Tryz.prog 308 #[.pointer (some ⟨p, 0, none⟩), lv] W fun e w' => e = .returned (.tuple #[]) ∧ ∃ v', Own B w0 w' (wrL p v' (l.foldl wSgn s) (redR lv 1 l.length (intC l) :: ss)) := by
  have H := Lib.hid h
  obtain ⟨ao, cap, rfl, hcap, -⟩ := red_reads (k := 2) h rfl
  clear h
  go_enter Tryz.func308, Tryz.ntmps308
  go_wp2_with fail
  go_loopw [8] (fun i wr => ∃ (k : Nat) (v : Value), i = .int .i64 k ∧ k ≤ l.length ∧ Hid (Own B w0 wr (wrL p v ((l.take k).foldl wSgn s) (redR (.slice ao l.length cap) 1 l.length (intC l) :: ss)))) (fun i _ => l.length - (intOf i).toNat)
  case atStart => exact ⟨0, v, rfl, by omega, H⟩
  case round =>
    clear H
    obtain ⟨k, v, rfl, hk, H⟩ := hrel
    by_cases hlt : k < l.length
    · have hkI : (k : Int) < (l.length : Int) := by omega
      have hk0 : (0 : Int) ≤ (k : Int) := by omega
      have hcI : (l.length : Int) ≤ (cap : Int) := by omega
      obtain ⟨ao', cap', e0, -, -, -, -, h5⟩ := red_reads (k := 2) H.out rfl
      simp only [Value.slice.injEq, true_and] at e0
      obtain ⟨rfl, -⟩ := e0
      obtain ⟨b, o, rfl, -, hc⟩ := h5 (by omega)
      have r0 : wr.cell? ⟨b, o + k, none⟩ = some (.int .i64 l[k]) := by rw [hc k (by omega)]; simp [hlt]
      have HN := Lib.hid (csgn_any l[k] H.out)
      have hlen := wSgns_len (l.take k) s
      have hl2 : ((l.take k).foldl wSgn s).out.length ≤ 1000000000000 := by simp at hlen; omega
      have HP : Hid (∀ v2 w2, Own B w0 w2 (bysR v2 (sgnX l[k]) :: wrL p v ((l.take k).foldl wSgn s) (redR (.slice (some ⟨b, o, none⟩) l.length cap) 1 l.length (intC l) :: ss)) → Calls Tryz.prog 310 #[.pointer (some ⟨p, 0, none⟩), v2, .bool (sgnOk l[k])] w2 fun e w' => e = .returned (.tuple #[]) ∧ ∃ v', Own B w0 w' (wrL p v' ((l.take (k + 1)).foldl wSgn s) (redR (.slice (some ⟨b, o, none⟩) l.length cap) 1 l.length (intC l) :: ss))) :=
        Lib.hid (fun v2 w2 h2 => (put_any h2.rot' hl2 (by have := sgnX_len l[k]; omega)).mono (by
          rintro e w' ⟨rfl, v', h3⟩
          refine ⟨rfl, v', ?_⟩
          rw [foldl_take _ _ _ hlt]
          exact h3.dropAt 2 (by simp)))
      clear hc h5 hl2 hlen H hk
      generalize l[k] = n at *
      generalize sgnOk n = ok at *
      go_wp2_with fail
      refine HN.out.mono ?_
      rintro e w1 ⟨v2, rfl, h2⟩
      have HP2 := Lib.hid (HP.out v2 w1 h2)
      clear h2 HN HP
      go_wp2_with fail
      refine HP2.out.mono ?_
      rintro e w2 ⟨rfl, v3, h3⟩
      have H3 := Lib.hid h3
      clear h3 HP2 r0
      go_wp2_with fail
      go_roundw
      case rel => exact ⟨k + 1, v3, by go_num, by omega, H3⟩
      case measure => simp [intOf]; omega
    · have hkI : decide ((k : Int) < (l.length : Int)) = false := by simp; omega
      have e : k = l.length := by omega
      subst e
      go_wp2_with fail
      refine bodyPost_end (results_none rfl _ _ _) rfl ?_
      have := H.out
      rw [List.take_length] at this
      exact ⟨rfl, v, this⟩

end
end Go.Proofs.YtannckelmojkoaaGreat

/- pack: what a writer puts: requests, votes. -/
namespace Go.Proofs.YtannckelmojkoaaGreat
open Go.RowKit Go.Heap

abbrev rqO (r : Rq) : Obj := .cells #[.int .i64 r.client, .int .i64 r.time, .int .i64 r.kind, .int .i64 r.key, .int .i64 r.val, .int .i64 r.sl] 38 (0, 0)

section
variable {B : Nat} {w0 w W W' : World} {ss rs : List Res} {p : Nat} {v bv : Value} {s : Wr}

theorem own_lits (h : Own B w0 W rs) (cs : Array Value) (T : TypeId) (n : Nat) (hn : cs.size = n) (hm : n ≤ 1000) : Own B w0 (W.alloc (.cells cs T (0, 0))) (redR (.slice (some ⟨W.heap.size, 0, none⟩) n n) 1 n cs.toList :: rs) := by
  refine (h.alloc (.cells cs T (0, 0))).red (v := .slice (some ⟨W.heap.size, 0, none⟩) n n) ?_ (fun k hk => ?_)
  · refine ⟨_, n, rfl, Nat.le_refl _, by unfold maxLen; omega, by simp [hn], (fun e => by cases e), fun _ => ⟨W.heap.size, 0, rfl, by simp, fun j hj => ?_⟩⟩
    rw [block_cell (heap_alloc_new W _)]
    simp
  · have := blkIf_sub hk
    simp [blkOf] at this
    subst this
    exact h.fresh (Nat.le_refl _)

theorem numbers_lit (l : List Int) (cs : Array Value) (n : Nat) (h : Own B w0 W (wrL p v s ss)) (b : Nat) (hb : W.heap.size = b) (e : cs.toList = intC l) (hn : l.length = n) (hl : s.out.length + 6 * l.length ≤ 1000000000000) (hll : l.length ≤ 1000) :
    Calls Tryz.prog 307 #[.pointer (some ⟨p, 0, none⟩), .slice (some ⟨b, 0, none⟩) n n] (W.alloc (.cells cs 3 (0, 0))) fun e w' => e = .returned (.tuple #[]) ∧ ∃ v', Own B w0 w' (wrL p v' (l.foldl wNum s) ss) := by
  subst hn
  subst hb
  have hs : cs.size = l.length := by rw [← Array.length_toList, e]; simp
  have h1 := own_lits h cs 3 l.length hs hll
  rw [e] at h1
  refine (numbers_any h1.rot' hl hll).mono ?_
  rintro e w' ⟨rfl, v', h2⟩
  exact ⟨rfl, v', h2.dropAt 2 (by simp)⟩
theorem signed_lit (l : List Int) (cs : Array Value) (n : Nat) (h : Own B w0 W (wrL p v s ss)) (b : Nat) (hb : W.heap.size = b) (e : cs.toList = intC l) (hn : l.length = n) (hl : s.out.length + 6 * l.length ≤ 1000000000000) (hll : l.length ≤ 1000) :
    Calls Tryz.prog 308 #[.pointer (some ⟨p, 0, none⟩), .slice (some ⟨b, 0, none⟩) n n] (W.alloc (.cells cs 3 (0, 0))) fun e w' => e = .returned (.tuple #[]) ∧ ∃ v', Own B w0 w' (wrL p v' (l.foldl wSgn s) ss) := by
  subst hn
  subst hb
  have hs : cs.size = l.length := by rw [← Array.length_toList, e]; simp
  have h1 := own_lits h cs 3 l.length hs hll
  rw [e] at h1
  refine (signed_nums h1.rot' hl hll).mono ?_
  rintro e w' ⟨rfl, v', h2⟩
  exact ⟨rfl, v', h2.dropAt 2 (by simp)⟩

theorem wReq_len (s : Wr) (r : Rq) : (wReq s r).out.length ≤ s.out.length + 36 := by
  have h1 := wNums_len [r.client, r.time, r.kind] s
  have h2 := wSgns_len [r.key, r.val] ([r.client, r.time, r.kind].foldl wNum s)
  have h3 := wNums_len [r.sl] ([r.key, r.val].foldl wSgn ([r.client, r.time, r.kind].foldl wNum s))
  simp only [List.length_cons, List.length_nil] at h1 h2 h3
  have e : wReq s r = [r.sl].foldl wNum ([r.key, r.val].foldl wSgn ([r.client, r.time, r.kind].foldl wNum s)) := rfl
  rw [e]; omega
theorem wVote_len (s : Wr) (x : Int × Int) : (wVote s x).out.length ≤ s.out.length + 12 := wNums_len [x.1, x.2] s

set_option maxHeartbeats 2000000 in
set_option maxRecDepth 100000 in
theorem wreq_any (r : Rq) (h : Own B w0 W (wrL p v s ss)) (hl : s.out.length ≤ 100000000000) :
    Calls Tryz.prog 296 #[.pointer (some ⟨p, 0, none⟩), .agg #[.int .i64 r.client, .int .i64 r.time, .int .i64 r.kind, .int .i64 r.key, .int .i64 r.val, .int .i64 r.sl]] W fun e w' => e = .returned (.tuple #[]) ∧ ∃ v', Own B w0 w' (wrL p v' (wReq s r) ss) := by
  have h1 : Own B w0 (W.alloc (rqO r)) (wrL p v s (blk W.heap.size (rqO r) :: ss)) := (h.box (rqO r)).rot'
  have H1 := Lib.hid h1
  have hb := h1.blkAt 2 rfl
  have x0 := cell_blk hb 0 rfl
  have x1 := cell_blk hb 1 rfl
  have x2 := cell_blk hb 2 rfl
  have HE : Hid (wReq s r = [r.sl].foldl wNum ([r.key, r.val].foldl wSgn ([r.client, r.time, r.kind].foldl wNum s))) := Lib.hid rfl
  have g1 := wNums_len [r.client, r.time, r.kind] s
  have g2 := wSgns_len [r.key, r.val] ([r.client, r.time, r.kind].foldl wNum s)
  have HN := Lib.hid (numbers_lit [r.client, r.time, r.kind] #[.int .i64 r.client, .int .i64 r.time, .int .i64 r.kind] 3 h1 (W.heap.size + 1) hs_alloc rfl rfl (by simp; omega) (by simp))
  simp only [List.length_cons, List.length_nil] at g1 g2
  generalize [r.client, r.time, r.kind].foldl wNum s = s1 at *
  clear h h1 hb
  unfold rqO at *
  go_enter Tryz.func296, Tryz.ntmps296
  go_wp2_with fail
  refine HN.out.mono ?_
  rintro e w1 ⟨rfl, v1, h2⟩
  have hb := h2.blkAt 2 rfl
  have y3 := cell_blk hb 3 rfl
  have y4 := cell_blk hb 4 rfl
  have HN2 := Lib.hid (signed_lit [r.key, r.val] #[.int .i64 r.key, .int .i64 r.val] 2 h2 w1.heap.size rfl rfl rfl (by simp; omega) (by simp))
  generalize [r.key, r.val].foldl wSgn s1 = s2 at *
  clear h2 hb HN H1 x0 x1 x2
  go_wp2_with fail
  refine HN2.out.mono ?_
  rintro e w2 ⟨rfl, v2, h3⟩
  have hb := h3.blkAt 2 rfl
  have y5 := cell_blk hb 5 rfl
  have HN3 := Lib.hid (numbers_lit [r.sl] #[.int .i64 r.sl] 1 h3 w2.heap.size rfl rfl rfl (by simp; omega) (by simp))
  clear h3 hb HN2 y3 y4
  go_wp2_with fail
  refine HN3.out.mono ?_
  rintro e w3 ⟨rfl, v3, h4⟩
  have H4 := Lib.hid h4
  clear h4 HN3
  go_wp2_with fail
  refine bodyPost_end (results_none rfl _ _ _) rfl ?_
  rw [HE.out]
  exact ⟨rfl, v3, H4.out.dropAt 2 (by simp)⟩

set_option maxHeartbeats 2000000 in
set_option maxRecDepth 100000 in
theorem wvote_any (x : Int × Int) (h : Own B w0 W (wrL p v s ss)) (hl : s.out.length ≤ 100000000000) :
    Calls Tryz.prog 299 #[.pointer (some ⟨p, 0, none⟩), .agg #[.int .i64 x.1, .int .i64 x.2]] W fun e w' => e = .returned (.tuple #[]) ∧ ∃ v', Own B w0 w' (wrL p v' (wVote s x) ss) := by
  have h1 : Own B w0 (W.alloc (.cells #[.int .i64 x.1, .int .i64 x.2] 177 (0, 0))) (wrL p v s (blk W.heap.size (.cells #[.int .i64 x.1, .int .i64 x.2] 177 (0, 0)) :: ss)) := (h.box _).rot'
  have H1 := Lib.hid h1
  have hb := h1.blkAt 2 rfl
  have x0 := cell_blk hb 0 rfl
  have x1 := cell_blk hb 1 rfl
  have HN := Lib.hid (numbers_lit [x.1, x.2] #[.int .i64 x.1, .int .i64 x.2] 2 h1 (W.heap.size + 1) hs_alloc rfl rfl (by simp; omega) (by simp))
  clear h h1 hb
  go_enter Tryz.func299, Tryz.ntmps299
  go_wp2_with fail
  refine HN.out.mono ?_
  rintro e w1 ⟨rfl, v1, h2⟩
  have H2 := Lib.hid h2
  clear h2 HN H1
  go_wp2_with fail
  refine bodyPost_end (results_none rfl _ _ _) rfl ?_
  exact ⟨rfl, v1, H2.out.dropAt 2 (by simp)⟩

end
end Go.Proofs.YtannckelmojkoaaGreat
