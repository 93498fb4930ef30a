/- What the machine makes of a call, and of its end. Each lemma states its own conditions. -/
import Derived.Test.YtgkpplbomciehaaTev31
namespace Go.Proofs.Ytgkpplbomciehaa
open Go.RowKit
theorem argsV_fail {vs : List (List Int)} : ∀ {l : List PE} {j : Nat} {e : PE}, l[j]? = some e → (∀ y ∈ l.take j, (y.val vs).2 = 0) → (e.val vs).2 ≠ 0 → (argsV vs l).2 = (e.val vs).2
  | [], _, _, h, _, _ => by simp at h
  | x :: l, 0, e, h, _, he => by
    obtain rfl : x = e := by simpa using h
    rw [argsV, if_pos he]
  | x :: l, j + 1, e, h, hz, he => by
    rw [argsV, if_neg (by simpa using hz x (by simp))]
    exact argsV_fail (by simpa using h) (fun y hy => hz y (by simp [hy])) he
theorem argsV_all {vs : List (List Int)} : ∀ {l : List PE}, (∀ y ∈ l, (y.val vs).2 = 0) → argsV vs l = (l.map fun y => (y.val vs).1, 0)
  | [], _ => rfl
  | x :: l, h => by
    rw [argsV, if_neg (by simpa using h x (by simp)), argsV_all fun y hy => h y (by simp [hy])]
    rfl
theorem setAll_snoc : ∀ (l : List Int) (vs : List (List Int)) (i : Nat) (n : Int), setAll vs (l ++ [n]) i = setC (setAll vs l i) ((i + l.length : Nat) : Int) 0 n
  | [], vs, i, n => rfl
  | m :: l, vs, i, n => by
    rw [List.cons_append, setAll, setAll, setAll_snoc l, List.length_cons, show i + 1 + l.length = i + (l.length + 1) by omega]
theorem wEvs_snoc (num a : Int) : ∀ (l : List Int) (i : Nat) (n : Int), wEvs num a (l ++ [n]) i = wEvs num a l i ++ [⟨2, num, a, ((i + l.length : Nat) : Int), 0, n⟩]
  | [], i, n => rfl
  | m :: l, i, n => by
    rw [List.cons_append, wEvs, wEvs, wEvs_snoc num a l, List.length_cons, show i + 1 + l.length = i + (l.length + 1) by omega, List.cons_append]
theorem take_snoc {α : Type} {l : List α} {j : Nat} {x : α} (h : l[j]? = some x) : l.take (j + 1) = l.take j ++ [x] := by
  rw [List.take_add_one, h]; rfl
section
variable {ps : List PF} {fuel : Int} {σ : Mc} {F : Fr} {rest : List Fr} {x : PC} {a : Int} {T : List Tk}
theorem Mc.do_call (hfr : σ.frames = F :: rest) (ht : F.tasks = .cmd x a :: T) (hs : σ.steps ≠ fuel) (hk : x.kind = 3) : σ.do_ ps fuel = Mc.call ps (σ.on F rest a F.tasks) x { F with at_ := a } rest := by
  rw [Mc.do_cmd hfr ht, if_neg hs, if_pos hk]
  rfl
theorem Mc.call_fail (hv : (argsV F.vars x.args).2 ≠ 0) : Mc.call ps (σ.on F rest a F.tasks) x { F with at_ := a } rest = (σ.on F rest a F.tasks).end_ a (argsV F.vars x.args).2 := by
  unfold Mc.call
  rw [if_pos hv]
theorem Mc.call_deep (hv : (argsV F.vars x.args).2 = 0) (h5 : rest.length = 5) : Mc.call ps (σ.on F rest a F.tasks) x { F with at_ := a } rest = (σ.on F rest a F.tasks).end_ a 4 := by
  unfold Mc.call
  rw [if_neg (by simpa using hv), if_pos h5]
/-- the machine in a function that was called -/
def Mc.inn (ps : List PF) (σ : Mc) (F : Fr) (rest : List Fr) (x : PC) (a : Int) (l : List Int) : Mc :=
  { σ.on F rest a F.tasks with made := σ.made + 1, frames := ⟨σ.made, x.fn, -1, setAll (zeroV (ps.getD x.fn.toNat noF).sizes) l 0, pushT (ps.getD x.fn.toNat noF).cmds (firstC ps x.fn.toNat) ++ [.back]⟩ :: { F with at_ := a } :: rest, out := σ.out ++ [⟨1, F.num, a, 0, 0, 0⟩] ++ [⟨5, F.num, a, x.fn, 0, σ.made⟩] ++ wEvs σ.made a l 0 }
theorem Mc.call_in (hv : (argsV F.vars x.args).2 = 0) (h5 : rest.length ≠ 5) : Mc.call ps (σ.on F rest a F.tasks) x { F with at_ := a } rest = Mc.inn ps σ F rest x a (argsV F.vars x.args).1 := by
  unfold Mc.call
  rw [if_neg (by simpa using hv), if_neg h5, Mc.writes_eq _ _ _ _ _ _ rfl]
  rfl
/-- a function that ends gives its result to the command that called it -/
theorem Mc.back_on {c : Fr} {a2 : Int} (hfr : σ.frames = F :: c :: rest) (ht : F.tasks = [.back]) (hc : c.tasks = .cmd x a2 :: T) (hv : ((ps.getD F.fn.toNat noF).result.val F.vars).2 = 0) :
    σ.do_ ps fuel = { σ with frames := { c with tasks := T, vars := setC c.vars x.var 0 ((ps.getD F.fn.toNat noF).result.val F.vars).1 } :: rest, out := σ.out ++ [⟨6, F.num, c.at_, 0, 0, ((ps.getD F.fn.toNat noF).result.val F.vars).1⟩] ++ [⟨2, c.num, c.at_, x.var, 0, ((ps.getD F.fn.toNat noF).result.val F.vars).1⟩] } := by
  rw [Mc.do_back hfr ht, Mc.back_one hc, if_neg (by simpa using hv)]
  unfold Mc.write Mc.top Mc.tell Mc.num
  rw [hfr]
theorem Mc.back_fail {c : Fr} {a2 : Int} (hfr : σ.frames = F :: c :: rest) (ht : F.tasks = [.back]) (hc : c.tasks = .cmd x a2 :: T) (hv : ((ps.getD F.fn.toNat noF).result.val F.vars).2 ≠ 0) :
    σ.do_ ps fuel = σ.end_ F.at_ ((ps.getD F.fn.toNat noF).result.val F.vars).2 := by
  rw [Mc.do_back hfr ht, Mc.back_one hc, if_pos hv]
end
/-- a row of numbers of the call's own -/
theorem own_int {w : World} {base n : Nat} {v : Value} {xs : List Int} (h : w.ownsRow base INT 1 v n (xs.map (Value.int .i64))) (hn : n = xs.length) {j : Nat} {u : Int} (hu : xs[j]? = some u) : ∃ b c, v = .slice (some ⟨b, 0, none⟩) n c ∧ v.ownBlock = some b ∧ ∃ cur, Blk w b INT cur ∧ cur[j]? = some (.int .i64 u) := by
  have hj := (List.getElem?_eq_some_iff.1 hu).1
  rcases h.2 with ⟨_, h0⟩ | ⟨b, cap, cur, rfl, _, hh, _, _, _, ht⟩
  · omega
  · refine ⟨b, cap, rfl, rfl, cur, hh, ?_⟩
    have hx : (xs.map (Value.int .i64))[j]? = some (.int .i64 u) := by rw [List.getElem?_map, hu]; rfl
    rw [← ht, List.getElem?_take] at hx
    split at hx
    · simpa using hx
    · cases hx
end Go.Proofs.Ytgkpplbomciehaa
