/- What the machine makes of a command, kind by kind. Each lemma states its own conditions. -/
import Derived.Test.YtgkpplbomciehaaTmo29
namespace Go.Proofs.Ytgkpplbomciehaa
open Go.RowKit
/-- the machine behind the step of a command -/
def Mc.on (σ : Mc) (F : Fr) (rest : List Fr) (a : Int) (T : List Tk) : Mc := { σ with steps := σ.steps + 1, frames := { F with at_ := a, tasks := T } :: rest, out := σ.out ++ [⟨1, F.num, a, 0, 0, 0⟩] }
section
variable {ps : List PF} {fuel : Int} {σ : Mc} {F : Fr} {rest : List Fr} {x : PC} {a : Int} {T : List Tk}
theorem Mc.do_fuel (hfr : σ.frames = F :: rest) (ht : F.tasks = .cmd x a :: T) (hs : σ.steps = fuel) : σ.do_ ps fuel = { σ with out := σ.out ++ [⟨7, F.num, a, 0, 0, 1⟩], over := true } := by
  rw [Mc.do_cmd hfr ht, if_pos hs]
  unfold Mc.end_ Mc.num
  rw [hfr]
theorem Mc.do_on (hfr : σ.frames = F :: rest) (ht : F.tasks = .cmd x a :: T) (hs : σ.steps ≠ fuel) (h3 : x.kind ≠ 3) : σ.do_ ps fuel = (σ.on F rest a T).cmd x a { F with at_ := a, tasks := T } := by
  rw [Mc.do_cmd hfr ht, if_neg hs, if_neg h3]
  rfl
theorem Mc.do_read (hfr : σ.frames = F :: rest) (ht : F.tasks = .cmd x a :: T) (hs : σ.steps ≠ fuel) (hk : x.kind = 4) : σ.do_ ps fuel =
    { σ.on F rest a T with inp := σ.inp.tail, frames := { F with at_ := a, tasks := T, vars := setC F.vars x.var 0 (σ.inp.headD 0) } :: rest, out := σ.out ++ [⟨1, F.num, a, 0, 0, 0⟩] ++ [⟨3, F.num, a, 0, 0, σ.inp.headD 0⟩] ++ [⟨2, F.num, a, x.var, 0, σ.inp.headD 0⟩] } := by
  rw [Mc.do_on hfr ht hs (by omega)]
  unfold Mc.cmd
  rw [if_pos hk]
  rfl
theorem Mc.do_put (hfr : σ.frames = F :: rest) (ht : F.tasks = .cmd x a :: T) (hs : σ.steps ≠ fuel) (hk : x.kind = 2) : σ.do_ ps fuel =
    if putHow F.vars x = 0 then (σ.on F rest a T).write a x.var (x.index.val F.vars).1 (x.expr.val F.vars).1 else (σ.on F rest a T).end_ a (putHow F.vars x) := by
  rw [Mc.do_on hfr ht hs (by omega)]
  unfold Mc.cmd putHow
  dsimp only
  rw [if_neg (by omega)]
  by_cases h1 : (x.index.val F.vars).2 ≠ 0
  · rw [if_pos ⟨hk, h1⟩, if_pos h1, if_neg h1]
  rw [if_neg (fun h => h1 h.2), if_neg h1]
  by_cases h2 : (x.expr.val F.vars).2 ≠ 0
  · rw [if_pos h2, if_pos h2, if_neg h2]
  rw [if_neg h2, if_neg h2, if_pos hk]
  split
  · rw [if_pos rfl]
  · rw [if_neg (by decide)]
/-- a command that looks at its expression alone -/
theorem Mc.do_fail (hfr : σ.frames = F :: rest) (ht : F.tasks = .cmd x a :: T) (hs : σ.steps ≠ fuel) (h2 : x.kind ≠ 2) (h3 : x.kind ≠ 3) (h4 : x.kind ≠ 4) (hv : (x.expr.val F.vars).2 ≠ 0) : σ.do_ ps fuel = (σ.on F rest a T).end_ a (x.expr.val F.vars).2 := by
  rw [Mc.do_on hfr ht hs h3]
  unfold Mc.cmd
  dsimp only
  rw [if_neg h4, if_neg (fun h => h2 h.1), if_pos hv]
theorem Mc.do_set (hfr : σ.frames = F :: rest) (ht : F.tasks = .cmd x a :: T) (hs : σ.steps ≠ fuel) (hk : x.kind = 1) (hv : (x.expr.val F.vars).2 = 0) : σ.do_ ps fuel = (σ.on F rest a T).write a x.var 0 (x.expr.val F.vars).1 := by
  rw [Mc.do_on hfr ht hs (by omega)]
  unfold Mc.cmd
  dsimp only
  rw [if_neg (by omega), if_neg (fun h => by omega), if_neg (by simpa using hv), if_neg (by omega), if_pos hk]
theorem Mc.do_print (hfr : σ.frames = F :: rest) (ht : F.tasks = .cmd x a :: T) (hs : σ.steps ≠ fuel) (hk : x.kind = 5) (hv : (x.expr.val F.vars).2 = 0) : σ.do_ ps fuel = { σ.on F rest a T with out := σ.out ++ [⟨1, F.num, a, 0, 0, 0⟩] ++ [⟨4, F.num, a, 0, 0, (x.expr.val F.vars).1⟩] } := by
  rw [Mc.do_on hfr ht hs (by omega)]
  unfold Mc.cmd
  dsimp only
  rw [if_neg (by omega), if_neg (fun h => by omega), if_neg (by simpa using hv), if_neg (by omega), if_neg (by omega), if_pos hk]
  rfl
theorem Mc.do_if (hfr : σ.frames = F :: rest) (ht : F.tasks = .cmd x a :: T) (hs : σ.steps ≠ fuel) (hk : x.kind = 6) (hv : (x.expr.val F.vars).2 = 0) : σ.do_ ps fuel = σ.on F rest a ((if (x.expr.val F.vars).1 ≠ 0 then pushT x.thn (a + 1) else pushT x.els (a + 1 + cntP x.thn)) ++ T) := by
  rw [Mc.do_on hfr ht hs (by omega)]
  unfold Mc.cmd
  dsimp only
  rw [if_neg (by omega), if_neg (fun h => by omega), if_neg (by simpa using hv), if_neg (by omega), if_neg (by omega), if_neg (by omega), if_pos hk]
  rfl
theorem Mc.do_while (hfr : σ.frames = F :: rest) (ht : F.tasks = .cmd x a :: T) (hs : σ.steps ≠ fuel) (hk : x.kind = 7) (hv : (x.expr.val F.vars).2 = 0) : σ.do_ ps fuel = σ.on F rest a (if (x.expr.val F.vars).1 ≠ 0 then pushT x.thn (a + 1) ++ .cmd x a :: T else T) := by
  rw [Mc.do_on hfr ht hs (by omega)]
  unfold Mc.cmd
  dsimp only
  rw [if_neg (by omega), if_neg (fun h => by omega), if_neg (by simpa using hv), if_neg (by omega), if_neg (by omega), if_neg (by omega), if_neg (by omega)]
  split
  · rfl
  · rfl
/-- a machine that goes on is good -/
theorem Good.next {ps : List PF} {fuel : Int} {σ σ' : Mc} {F F' : Fr} {rest rest' : List Fr} (hp : Prog ps) (h : Good ps fuel σ F rest) (hd : σ.do_ ps fuel = σ') (hfr : σ'.frames = F' :: rest') (ho : σ'.over = false) : Good ps fuel σ' F' rest' ∧ Reach ps fuel σ σ' := by
  refine ⟨?_, Reach.one h.on hd⟩
  obtain ⟨-, h1⟩ := h.step hp
  rw [hd] at h1
  rcases h1 with h1 | ⟨f', r', hg, -⟩
  · rw [ho] at h1; cases h1
  · have := hg.fr
    rw [hfr] at this
    injection this with e1 e2
    subst e1 e2
    exact hg
theorem Good.outs (h : Good ps fuel σ F rest) (hf : fuel ≤ 10000) : σ.out.length ≤ 70000 ∧ σ.steps ≤ 10000 := by
  have h1 := h.len
  have h2 := h.s1
  omega
end
end Go.Proofs.Ytgkpplbomciehaa
