/- append([]T(nil), l...): one law for every l. No program. -/
import Derived.Test.YtdeadekeffficaaJoin
import Derived.Laws.AppendOwnNone
namespace Go.Heap
open Go Go.RowKit

theorem wpList_fresh {P : Program} {w : World} {ops : Array Oper} {rest : List Oper} {o : Oper} {a : Act} {Q : Exit → Act → World → Prop} (hgd : o.guard = none) (x : Operand) (t : TypeId)
    (ho : o.op = .call { callee := .builtin .append, args := #[.const (.slice none 0 0), x], argTypes := #[t, t] })
    (e : TypeId) (i : TypeInfo) (z : Value) (size bytes : Nat) (ht : P.underlying t = some (.slice e)) (hi : P.info? e = some i) (hz : i.zero = some z)
    (hsize : i.size = size) (hby : i.bytes = bytes) (hzs : z.cells.size = size) (hsz : 0 < size)
    (v : Value) (n : Nat) (xs : List Value) (hx : a.eval x = v) (hr : Reads w v size n xs) (h1 : ∀ u ∈ xs, u.oneCell' = true) (hbytes : n * bytes ≤ 140737488355328)
    (h : ∀ v' w', w'.ownsRow w.heap.size e size v' n xs → Upd [] w w' → wpList P ops Q rest (a.put o.dst v') w') : wpList P ops Q (o :: rest) a w := by
  obtain ⟨ao, cap, rfl, hl1, hl2, hl3, hl4, hl5⟩ := hr
  cases ao with
  | none =>
    obtain ⟨rfl, rfl⟩ := hl4 rfl
    have : xs = [] := List.eq_nil_of_length_eq_zero (by simpa using hl3)
    subst this
    exact wpList_append_own_none hgd (.const (.slice none 0 0)) x t ho w.heap.size e i size ht hi _ 0 [] rfl (World.ownsRow_nil _ _ _ _) hx (h _ _ (World.ownsRow_nil _ _ _ _) (Upd.refl _ _))
  | some ad =>
    have hnews : ∀ j u, xs[j]? = some u → w.cell? (ad.add j) = some u := by
      intro j u hj
      have hlt := (List.getElem?_eq_some_iff.1 hj).1
      have hn : 0 < n := by
        rcases Nat.eq_zero_or_pos n with h0 | h0
        · subst h0; omega
        · exact h0
      obtain ⟨b, o, hab, hb, hc⟩ := hl5 hn
      simp only [Option.some.injEq] at hab
      subst hab
      have : (⟨b, o, none⟩ : Addr).add j = ⟨b, o + j, none⟩ := by unfold Addr.add; split <;> simp_all
      rw [this, hc j (by omega)]
      exact hj
    refine wpList_append_own w hgd (.const (.slice none 0 0)) x t ho w.heap.size e i z size bytes ht hi hz hsize hby hzs hsz (.slice none 0 0) 0 [] rfl (World.ownsRow_nil _ _ _ _) ad n cap xs hx hl3 hnews h1 (by rw [Nat.zero_add]; omega) (by rw [Nat.zero_add]; exact hbytes) (Nat.le_refl _) ?_
    intro v' w' hown hgrow _
    rw [Nat.zero_add, List.nil_append] at hown
    exact h v' w' hown ((Upd.refl _ _).grown hgrow (by intro k hk; simp [Value.ownBlock] at hk))

end Go.Heap
