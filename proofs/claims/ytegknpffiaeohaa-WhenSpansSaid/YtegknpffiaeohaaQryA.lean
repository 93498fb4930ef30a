/- Queries as trees: what a query reads as, how many parts it has, what is wrong with it. Each lemma states its own conditions. -/
import Derived.Test.YtegknpffiaeohaaAbout
namespace Go.Proofs.Ytegknpffiaeohaa
open Go.RowKit

inductive Ask where
  | mk (kind n : Int) (args : List Ask)
def Ask.kind : Ask → Int | .mk k _ _ => k
def Ask.n : Ask → Int | .mk _ n _ => n
def Ask.args : Ask → List Ask | .mk _ _ a => a

theorem Ask.ind {p : Ask → Prop} (h : ∀ k n args, (∀ x ∈ args, p x) → p (.mk k n args)) : ∀ q, p q
  | .mk k n args => h k n args fun x _hx => Ask.ind h x
  termination_by q => SizeOf.sizeOf q
  decreasing_by
    have := List.sizeOf_lt_of_mem _hx
    simp only [Ask.mk.sizeOf_spec]
    omega

/-- three cells read as a query -/
inductive AskR (w : World) : Ask → List Value → Prop
  | nil (k n : Int) (A : Option Addr) (c : Nat) (hc : c ≤ maxLen) (hA : A = none → c = 0) : AskR w (.mk k n []) [.int .i64 k, .int .i64 n, .slice A 0 c]
  | row (k n : Int) (args : List Ask) (b o c : Nat) (f : Nat → List Value) (hp : 0 < args.length) (hl : args.length ≤ c) (hc : c ≤ maxLen)
      (hf : ∀ i x, args[i]? = some x → AskR w x (f i)) (hcs : ∀ i x, args[i]? = some x → CellsAt w b (o + i * 3) (f i)) :
      AskR w (.mk k n args) [.int .i64 k, .int .i64 n, .slice (some ⟨b, o, none⟩) args.length c]

theorem AskR.keep {w w' : World} (hb : Bel w w') {q : Ask} {cs : List Value} (h : AskR w q cs) : AskR w' q cs := by
  induction h with
  | nil k n A c hc hA => exact .nil k n A c hc hA
  | row k n args b o c f hp hl hc hf hcs ih => exact .row k n args b o c f hp hl hc ih fun i x hx => (hcs i x hx).keep hb
def askR : Rep Ask where
  size := 3
  R w cs q := AskR w q cs
  len h := by cases h <;> rfl
  keep hb h := h.keep hb
theorem AskR.opened {w : World} {k n : Int} {args : List Ask} {cs : List Value} (h : AskR w (.mk k n args) cs) : ∃ v, cs = [.int .i64 k, .int .i64 n, v] ∧ Sl askR w v args := by
  cases h with
  | nil _ _ A c hc hA => exact ⟨_, rfl, Sl.nil askR w c A hc hA⟩
  | row _ _ _ b o c f hp hl hc hf hcs => exact ⟨_, rfl, _, _, rfl, hl, ⟨hc, fun h => by cases h⟩, fun _ => ⟨b, o, rfl, fun i x hx => ⟨f i, hf i x hx, hcs i x hx⟩⟩⟩
theorem AskR.shut {w : World} {k n : Int} {args : List Ask} {v : Value} (h : Sl askR w v args) : AskR w (.mk k n args) [.int .i64 k, .int .i64 n, v] := by
  obtain ⟨A, c, rfl, hl, hm, hA⟩ := h
  rcases Nat.eq_zero_or_pos args.length with h0 | h0
  · obtain rfl := List.eq_nil_of_length_eq_zero h0
    exact .nil k n A c hm.1 hm.2
  · obtain ⟨b, o, rfl, hc⟩ := hA h0
    have hx : ∀ i, ∃ cs, ∀ x, args[i]? = some x → AskR w x cs ∧ CellsAt w b (o + i * 3) cs := fun i => by
      cases hx : args[i]? with
      | none => exact ⟨[], fun _ h => by cases h⟩
      | some x =>
        obtain ⟨cs, h1, h2⟩ := hc i x hx
        exact ⟨cs, fun y hy => by obtain rfl := Option.some.inj hy; exact ⟨h1, h2⟩⟩
    exact .row k n args b o c (fun i => Classical.choose (hx i)) h0 hl hm.1 (fun i x hi => (Classical.choose_spec (hx i) x hi).1) (fun i x hi => (Classical.choose_spec (hx i) x hi).2)

/-- a query as an argument -/
def AskV (w : World) (q : Ask) (val : Value) : Prop := ∃ v, val = .agg #[.int .i64 q.kind, .int .i64 q.n, v] ∧ Sl askR w v q.args
theorem AskV.keep {w w' : World} (hb : Bel w w') {q : Ask} {val : Value} (h : AskV w q val) : AskV w' q val := by
  obtain ⟨v, h1, h2⟩ := h
  exact ⟨v, h1, h2.keep hb⟩
/-- an element of a query's Args -/
theorem askR.cells {w : World} {b o : Nat} {xs : List Ask} (h : ∀ k x, xs[k]? = some x → askR.At w b (o + k * askR.size) x) {k : Nat} {x : Ask} (hk : xs[k]? = some x) :
    ∃ A m c, Sl askR w (.slice A m c) x.args ∧ w.cell? ⟨b, o + k * 3, none⟩ = some (.int .i64 x.kind) ∧ w.cell? ⟨b, o + k * 3 + 1, none⟩ = some (.int .i64 x.n) ∧ w.cell? ⟨b, o + k * 3 + 2, none⟩ = some (.slice A m c) := by
  obtain ⟨cs, hc, hcs⟩ := h k x hk
  obtain ⟨k', n', args⟩ := x
  obtain ⟨v, rfl, hs⟩ := AskR.opened hc
  have hs' := hs
  obtain ⟨A, c, rfl, _⟩ := hs
  exact ⟨A, _, c, hs', hcs 0 _ rfl, hcs 1 _ rfl, hcs 2 _ rfl⟩

mutual
/-- how many parts; more than m is enough -/
def Ask.size : Ask → Int → Int
  | .mk _ _ args, m => sizeL args 1 m
def sizeL : List Ask → Int → Int → Int
  | [], a, _ => a
  | x :: xs, a, m => if m < a then a else sizeL xs (a + x.size (m - a)) m
end
theorem sizeL_le {xs : List Ask} (h : ∀ x ∈ xs, ∀ m, 0 ≤ m → 1 ≤ x.size m ∧ x.size m ≤ m + 1) : ∀ a m, 1 ≤ a → a ≤ m + 1 → 1 ≤ sizeL xs a m ∧ sizeL xs a m ≤ m + 1 := by
  induction xs with
  | nil => intro a m h1 h2; rw [sizeL]; exact ⟨h1, h2⟩
  | cons x xs ih =>
    intro a m h1 h2
    rw [sizeL]
    split
    · exact ⟨h1, h2⟩
    · obtain ⟨h3, h4⟩ := h x (by simp) (m - a) (by omega)
      exact ih (fun y hy => h y (by simp [hy])) _ _ (by omega) (by omega)
theorem Ask.size_le : ∀ q : Ask, ∀ m, 0 ≤ m → 1 ≤ q.size m ∧ q.size m ≤ m + 1 :=
  Ask.ind fun k n args ih m hm => by rw [Ask.size]; exact sizeL_le ih 1 m (by omega) (by omega)
theorem sizeL_drop {args : List Ask} {k : Nat} {x : Ask} (hx : args[k]? = some x) (a m : Int) : sizeL (args.drop k) a m = if m < a then a else sizeL (args.drop (k + 1)) (a + x.size (m - a)) m := by
  obtain ⟨hl, rfl⟩ := List.getElem?_eq_some_iff.1 hx
  rw [List.drop_eq_getElem_cons hl, sizeL]
theorem sizeL_end {args : List Ask} {k : Nat} (h : args.length ≤ k) (a m : Int) : sizeL (args.drop k) a m = a := by
  rw [List.drop_eq_nil_of_le h, sizeL]

/-- how many Args a kind of queries has -/
def arity (k : Int) : Int := if k ≤ 6 then 0 else if k = 8 ∨ k = 9 ∨ k = 13 then 2 else 1
def leastN (k : Int) : Int := if k = 1 ∨ k = 2 ∨ k = 3 then -1 else if k = 5 ∨ k = 6 then -9999999 else 0
def mostN (k : Int) : Int := if k = 1 ∨ k = 2 ∨ k = 3 then 9999999 else if k = 5 ∨ k = 6 then 9999999 else if k = 14 then 4000 else 0
mutual
/-- what is wrong with a query that is not too great -/
def Ask.chk : Ask → Int
  | .mk k n args => if 1 ≤ k ∧ k ≤ 14 then if (args.length : Int) = arity k then if leastN k ≤ n ∧ n ≤ mostN k then chkL args else 3 else 1 else 7
def chkL : List Ask → Int
  | [] => 0
  | x :: xs => if x.chk = 0 then chkL xs else x.chk
end
theorem chkL_drop {args : List Ask} {k : Nat} {x : Ask} (hx : args[k]? = some x) : chkL (args.drop k) = if x.chk = 0 then chkL (args.drop (k + 1)) else x.chk := by
  obtain ⟨hl, rfl⟩ := List.getElem?_eq_some_iff.1 hx
  rw [List.drop_eq_getElem_cons hl, chkL]
theorem chkL_end {args : List Ask} {k : Nat} (h : args.length ≤ k) : chkL (args.drop k) = 0 := by
  rw [List.drop_eq_nil_of_le h, chkL]
theorem chkL_zero {args : List Ask} (h : chkL args = 0) : ∀ x ∈ args, x.chk = 0 := by
  induction args with
  | nil => simp
  | cons y ys ih =>
    rw [chkL] at h
    split at h
    · rename_i h0
      intro x hx
      rcases List.mem_cons.1 hx with rfl | hx
      · exact h0
      · exact ih h x hx
    · exact absurd h ‹_›
theorem Ask.chk_zero {k n : Int} {args : List Ask} (h : (Ask.mk k n args).chk = 0) : (1 ≤ k ∧ k ≤ 14) ∧ (args.length : Int) = arity k ∧ (leastN k ≤ n ∧ n ≤ mostN k) ∧ ∀ x ∈ args, x.chk = 0 := by
  rw [Ask.chk] at h
  split at h
  · split at h
    · split at h
      · exact ⟨‹_›, ‹_›, ‹_›, chkL_zero h⟩
      · cases h
    · cases h
  · cases h
/-- CheckAsk -/
def Ask.err (q : Ask) : Int := if 15 < q.size 15 then 2 else q.chk

theorem args_any (k : Int) (w : World) : Calls Try.prog 75 #[.int .i64 k] w fun r w' => r = .returned (.int .i64 (if 1 ≤ k ∧ k ≤ 14 then arity k else -1)) ∧ w = w' := by
  go_enter Try.func75, Try.ntmps75
  go_wp2
  all_goals go_ret
  all_goals refine ⟨ret_int ?_, rfl⟩
  all_goals simp_all [arity]
  all_goals omega
theorem askArgs_any (k : Int) (w : World) : Calls Try.prog 52 #[.int .i64 k] w fun r w' => r = .returned (.int .i64 (arity k)) ∧ w = w' := by
  go_enter Try.func52, Try.ntmps52
  go_wp2
  all_goals go_ret
  all_goals refine ⟨ret_int ?_, rfl⟩
  all_goals simp_all [arity]
theorem within_any (n a b : Int) (w : World) : Calls Try.prog 80 #[.int .i64 n, .int .i64 a, .int .i64 b] w fun r w' => r = .returned (.bool (decide (a ≤ n ∧ n ≤ b))) ∧ w = w' := by
  go_enter Try.func80, Try.ntmps80
  go_wp2
  all_goals go_ret
  all_goals refine ⟨ret_bool ?_, rfl⟩
  all_goals simp_all
  all_goals omega
theorem number_any (q : Ask) (val : Value) (w : World) (h : AskV w q val) : Calls Try.prog 76 #[val] w fun r w' => r = .returned (.bool (decide (leastN q.kind ≤ q.n ∧ q.n ≤ mostN q.kind))) ∧ Bel w w' := by
  obtain ⟨v, rfl, A, c, rfl, _⟩ := h
  generalize q.kind = k
  generalize q.n = n
  generalize q.args.length = m
  go_enter Try.func76, Try.ntmps76
  go_wp2_with (go_at_call 80; refine (within_any _ _ _ _).mono ?_; rintro e w' ⟨rfl, rfl⟩)
  all_goals go_ret
  all_goals refine ⟨ret_bool ?_, (Bel.rfl_ w).al _⟩
  all_goals simp_all [leastN, mostN]
  all_goals (rw [Bool.eq_iff_iff]; simp; omega)

end Go.Proofs.Ytegknpffiaeohaa
