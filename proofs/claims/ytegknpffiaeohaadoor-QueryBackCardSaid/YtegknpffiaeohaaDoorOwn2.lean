/- Appends where the operation is guarded, too. Each lemma states its own conditions. -/
import Derived.Test.YtegknpffiaeohaaDoorOwn
namespace Go.Proofs.YtegknpffiaeohaaDoor
open Go.RowKit

section
variable {P : Program} (W : World)
/-- at the operation itself -/
theorem wp_appAll {o : Oper} {a : Act} {K : Act → World → Prop} {Q : Exit → Act → World → Prop} (s x : Operand) (t : TypeId)
    (ho : o.op = .call { callee := .builtin .append, args := #[s, x], argTypes := #[t, t] }) (base : Nat) {e : TypeId} {size bytes : Nat} (E : Elem P t e size bytes)
    (v : Value) (n : Nat) (xs : List Value) (hs : a.eval s = v) (hown : W.ownsRow base e size v n xs) (A : Option Addr) (m c : Nat) (news : List Value) (hx : a.eval x = .slice A m c)
    (hl : news.length = m * size) (hN : A = none → c = 0) (hc : 0 < m → ∃ b off, A = some ⟨b, off, none⟩ ∧ CellsAt W b off news) (h1 : ∀ u ∈ news, u.oneCell' = true)
    (h63 : n + m ≤ maxLen) (hbytes : (n + m) * bytes ≤ 140737488355328) (hbase : base ≤ W.heap.size)
    (h : ∀ v' w', w'.ownsRow base e size v' (n + m) (xs ++ news) → W.grownBy w' v.ownBlock → (v'.ownBlock = v.ownBlock ∨ v'.ownBlock = some W.heap.size) → K (a.put o.dst v') w') : o.wp P a W K Q := by
  obtain ⟨i, z, hi, hz, hz1, hz2, hz3⟩ := E.inf
  have fin : ∀ v' w', (Builtin.append_ #[t, t] o.type #[v, .slice A m c]).run P W = .ok v' w' → K (a.put o.dst v') w' → o.wp P a W K Q := fun v' w' hr hk => by
    unfold Oper.wp execOp
    simp only [ho, resolve, invoke, builtin, Sem.run_bind, Sem.run_pure, Result.andThen_ok, List.map_toArray, List.map_cons, List.map_nil, hs, hx, hr]
    exact hk
  cases A with
  | none =>
    have hm : m = 0 := by
      rcases Nat.eq_zero_or_pos m with h0 | h0
      · exact h0
      · obtain ⟨_, _, h, _⟩ := hc h0; cases h
    subst hm
    obtain rfl := hN rfl
    obtain rfl : news = [] := List.eq_nil_of_length_eq_zero (by simpa using hl)
    exact fin v W (run_append_owned_none (P := P) (w := W) base t o.type e i size E.und hi v n xs hown) (h v W (by simpa using hown) (World.grownBy.refl W _) (.inl rfl))
  | some ad =>
    have hn : ∀ j u, news[j]? = some u → W.cell? (ad.add j) = some u := by
      intro j u hu
      have hm : 0 < m := by
        rcases Nat.eq_zero_or_pos m with h0 | h0
        · subst h0
          obtain rfl : news = [] := List.eq_nil_of_length_eq_zero (by simpa using hl)
          simp at hu
        · exact h0
      obtain ⟨b, off, hA, hcs⟩ := hc hm
      injection hA with hA
      subst hA
      have hadd : (⟨b, off, none⟩ : Addr).add j = ⟨b, off + j, none⟩ := by unfold Addr.add; split <;> simp_all
      rw [hadd]
      exact hcs j u hu
    obtain ⟨v', w', hr, h2, h3, _, h5⟩ := run_append_own_at (P := P) W base t o.type e i z size bytes E.und hi hz hz1 hz2 hz3 E.pos v n xs hown ad m c news hl hn h1 h63 hbytes hbase
    exact fin v' w' hr (h v' w' h2 h3 h5)

/-- in a list of operations, the guard met -/
theorem wpl_appAll_g {ops : Array Oper} {rest : List Oper} {o : Oper} {a : Act} {Q : Exit → Act → World → Prop} (hw : Region.wanted o (yielded ops a.tmps) = true) (s x : Operand) (t : TypeId)
    (ho : o.op = .call { callee := .builtin .append, args := #[s, x], argTypes := #[t, t] }) (base : Nat) {e : TypeId} {size bytes : Nat} (E : Elem P t e size bytes)
    (v : Value) (n : Nat) (xs : List Value) (hs : a.eval s = v) (hown : W.ownsRow base e size v n xs) (A : Option Addr) (m c : Nat) (news : List Value) (hx : a.eval x = .slice A m c)
    (hl : news.length = m * size) (hN : A = none → c = 0) (hc : 0 < m → ∃ b off, A = some ⟨b, off, none⟩ ∧ CellsAt W b off news) (h1 : ∀ u ∈ news, u.oneCell' = true)
    (h63 : n + m ≤ maxLen) (hbytes : (n + m) * bytes ≤ 140737488355328) (hbase : base ≤ W.heap.size)
    (h : ∀ v' w', w'.ownsRow base e size v' (n + m) (xs ++ news) → W.grownBy w' v.ownBlock → (v'.ownBlock = v.ownBlock ∨ v'.ownBlock = some W.heap.size) →
      wpList P ops Q rest (a.put o.dst v') w') : wpList P ops Q (o :: rest) a W := by
  unfold wpList
  rw [if_pos hw]
  exact .inl (wp_appAll W s x t ho base E v n xs hs hown A m c news hx hl hN hc h1 h63 hbytes hbase h)
end

/-- what an 'append(xs, ys...)' asks of ys -/
theorem Sl.src {w : World} {A : Option Addr} {xs : List Int} (hA : 0 < xs.length → ∃ b o, A = some ⟨b, o, none⟩ ∧ ∀ k x, xs[k]? = some x → intR.At w b (o + k * intR.size) x) :
    0 < xs.length → ∃ b off, A = some ⟨b, off, none⟩ ∧ CellsAt w b off (xs.map (Value.int .i64)) := fun hp => by
  obtain ⟨b, o, h1, h2⟩ := hA hp
  exact ⟨b, o, h1, ints_cells h2⟩
end Go.Proofs.YtegknpffiaeohaaDoor
