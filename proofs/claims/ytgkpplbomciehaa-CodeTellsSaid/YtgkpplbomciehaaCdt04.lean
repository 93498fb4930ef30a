/- Runs in plain words: what expressions are worth, and the machine of a run. Programs that are right, and machines that run them: what holds at each step. A machine that is right stays so. Code in plain words: instructions, and the machine that runs them. Programs as code; expressions as code. Each lemma states its own conditions. -/
import Derived.Test.YtgkpplbomciehaaCdt03
namespace Go.Proofs.Ytgkpplbomciehaa
open Go.RowKit
/-- a number of a run -/
def Num (n : Int) : Prop := -2147483648 ≤ n ∧ n ≤ 2147483647
instance (n : Int) : Decidable (Num n) := inferInstanceAs (Decidable (_ ∧ _))
theorem orE_eq_zero {a b : Int} (h : orE a b = 0) : a = 0 ∧ b = 0 := by
  unfold orE at h
  split at h
  · exact ⟨‹_›, h⟩
  · exact ⟨h, absurd h ‹_›⟩
theorem partsP_mem {z : List Int} {xs : List PE} (h : partsP z xs = 0) : ∀ x ∈ xs, x.parts z = 0 := by
  induction xs with
  | nil => intro x hx; simp at hx
  | cons y ys ih =>
    rw [partsP] at h
    obtain ⟨h1, h2⟩ := orE_eq_zero h
    intro x hx
    rcases List.mem_cons.1 hx with rfl | hx
    · exact h1
    · exact ih h2 x hx
theorem PE.parts_ok {z : List Int} {k n : Int} {args : List PE} (h : (PE.mk k n args).parts z = 0) : partP z (.mk k n args) = 0 ∧ ∀ x ∈ args, x.parts z = 0 := by
  rw [PE.parts] at h
  obtain ⟨h1, h2⟩ := orE_eq_zero h
  exact ⟨h1, partsP_mem h2⟩
theorem PE.err_ok {z : List Int} {e : PE} (h : e.err z = 0) : e.parts z = 0 := by
  unfold PE.err at h
  split at h
  · omega
  · exact h
/-- the number of a function's first command -/
def firstC (ps : List PF) (f : Nat) : Int := ((ps.take f).map fun g => (cntP g.cmds : Int)).sum
def noF : PF := ⟨0, [], [], .mk 0 0 []⟩
namespace Mc
end Mc
theorem errPs_mem {z : List Int} {xs : List PE} (h : errPs z xs = 0) : ∀ x ∈ xs, x.err z = 0 := by
  induction xs with
  | nil => intro x hx; simp at hx
  | cons y ys ih =>
    rw [errPs] at h
    obtain ⟨h1, h2⟩ := orE_eq_zero h
    intro x hx
    rcases List.mem_cons.1 hx with rfl | hx
    · exact h1
    · exact ih h2 x hx
/-- what a command that is right is -/
structure CmdIs (pms z : List Int) (calls : Int) (x : PC) : Prop where
  k1 : 1 ≤ x.kind
  k7 : x.kind ≤ 7
  var : x.kind ≤ 4 → 0 ≤ x.var ∧ x.var < z.length
  fn : x.kind = 3 → 0 ≤ x.fn ∧ x.fn < calls
  one : x.kind ≤ 4 → x.kind ≠ 2 → z.getD x.var.toNat 0 ≤ 0
  args : x.kind = 3 → (x.args.length : Int) = pms.getD x.fn.toNat 0
  index : x.kind = 2 → x.index.err z = 0
  expr : x.kind ≠ 3 → x.kind ≠ 4 → x.expr.err z = 0
  all : ∀ y ∈ x.args, y.err z = 0
theorem PC.own_ok {pms z : List Int} {calls : Int} {x : PC} (h : x.own pms z calls = 0) : CmdIs pms z calls x := by
  unfold PC.own at h
  by_cases h1 : x.kind < 1 ∨ 7 < x.kind
  · rw [if_pos h1] at h; omega
  rw [if_neg h1] at h
  by_cases h2 : (x.kind ≤ 4 ∧ ¬ (0 ≤ x.var ∧ x.var < z.length)) ∨ (x.kind = 3 ∧ ¬ (0 ≤ x.fn ∧ x.fn < calls))
  · rw [if_pos h2] at h; omega
  rw [if_neg h2] at h
  by_cases h3 : x.kind ≤ 4 ∧ (0 < z.getD x.var.toNat 0 ∧ x.kind ≠ 2 ∨ z.getD x.var.toNat 0 = 0 ∧ x.kind = 2)
  · rw [if_pos h3] at h; omega
  rw [if_neg h3] at h
  split at h
  · omega
  by_cases h4 : x.kind = 3 ∧ (x.args.length : Int) ≠ pms.getD x.fn.toNat 0
  · rw [if_pos h4] at h; omega
  rw [if_neg h4] at h
  obtain ⟨h5, h6⟩ := orE_eq_zero h
  obtain ⟨h7, h8⟩ := orE_eq_zero h6
  refine ⟨by omega, by omega, fun hk => ?_, fun hk => ?_, fun hk hk2 => ?_, fun hk => ?_, fun hk => ?_, fun hk hk2 => ?_, errPs_mem h8⟩
  · omega
  · omega
  · have : ¬ 0 < z.getD x.var.toNat 0 := fun hz => h3 ⟨hk, Or.inl ⟨hz, hk2⟩⟩
    omega
  · omega
  · rwa [if_pos hk] at h5
  · rwa [if_pos ⟨hk, hk2⟩] at h7
theorem PC.err_ok {pms z : List Int} {calls : Int} {x : PC} (h : x.err pms z calls = 0) : CmdIs pms z calls x ∧ errCs pms z calls x.thn = 0 ∧ errCs pms z calls x.els = 0 := by
  obtain ⟨k, v, f, i, e, args, thn, els⟩ := x
  rw [PC.err] at h
  obtain ⟨h1, h2⟩ := orE_eq_zero h
  obtain ⟨h3, h4⟩ := orE_eq_zero h2
  exact ⟨PC.own_ok h1, h3, h4⟩
theorem errCs_mem {pms z : List Int} {calls : Int} {xs : List PC} (h : errCs pms z calls xs = 0) : ∀ x ∈ xs, x.err pms z calls = 0 := by
  induction xs with
  | nil => intro x hx; simp at hx
  | cons y ys ih =>
    rw [errCs] at h
    obtain ⟨h1, h2⟩ := orE_eq_zero h
    intro x hx
    rcases List.mem_cons.1 hx with rfl | hx
    · exact h1
    · exact ih h2 x hx
/-- a function of a program that is right -/
structure FnOk (ps : List PF) (i : Nat) (g : PF) : Prop where
  par0 : 0 ≤ g.params
  par1 : g.params ≤ g.sizes.length
  par3 : g.params ≤ 3
  var6 : (g.sizes.length : Int) - g.params ≤ 6
  sz : ∀ n ∈ g.sizes, 0 ≤ n ∧ n ≤ 8
  pz : ∀ n ∈ g.sizes.take g.params.toNat, n = 0
  cmds : ∃ calls : Int, calls ≤ (ps.length : Int) - 1 ∧ errCs (ps.map PF.params) g.sizes calls g.cmds = 0
  res : i + 1 < ps.length → g.result.err g.sizes = 0
theorem PF.err_ok {pms : List Int} {calls : Int} {main : Bool} {g : PF} (h : g.err pms calls main = 0) :
    0 ≤ g.params ∧ g.params ≤ g.sizes.length ∧ g.params ≤ 3 ∧ (g.sizes.length : Int) - g.params ≤ 6 ∧ (∀ n ∈ g.sizes, 0 ≤ n ∧ n ≤ 8) ∧ (∀ n ∈ g.sizes.take g.params.toNat, n = 0) ∧ errCs pms g.sizes calls g.cmds = 0 ∧ (main = false → g.result.err g.sizes = 0) := by
  unfold PF.err at h
  by_cases h1 : g.params < 0 ∨ (g.sizes.length : Int) < g.params
  · rw [if_pos h1] at h; omega
  rw [if_neg h1] at h
  by_cases h2 : 3 < g.params ∨ 6 < (g.sizes.length : Int) - g.params
  · rw [if_pos h2] at h; omega
  rw [if_neg h2] at h
  by_cases h3 : g.sizes.all (fun n => decide (0 ≤ n ∧ n ≤ 8)) = false
  · rw [if_pos h3] at h; omega
  rw [if_neg h3] at h
  by_cases h4 : (g.sizes.take g.params.toNat).all (fun n => decide (n = 0)) = false ∨ (main = true ∧ 0 < g.params)
  · rw [if_pos h4] at h; omega
  rw [if_neg h4] at h
  obtain ⟨h5, h6⟩ := orE_eq_zero h
  refine ⟨by omega, by omega, by omega, by omega, ?_, ?_, h5, ?_⟩
  · have := Bool.not_eq_false _ |>.mp h3
    rw [List.all_eq_true] at this
    exact fun n hn => of_decide_eq_true (this n hn)
  · have : (g.sizes.take g.params.toNat).all (fun n => decide (n = 0)) = true := by
      rcases Bool.eq_false_or_eq_true ((g.sizes.take g.params.toNat).all (fun n => decide (n = 0))) with h | h
      · exact h
      · exact absurd (Or.inl h) h4
    rw [List.all_eq_true] at this
    exact fun n hn => of_decide_eq_true (this n hn)
  · intro hm
    rw [hm] at h6
    simpa using h6
theorem errFs_at {pms : List Int} : ∀ {l : List PF} {j : Nat}, errFs pms j l = 0 → ∀ i g, l[i]? = some g → (i + 1 = l.length ∧ g.err pms ((j + i : Nat) : Int) true = 0) ∨ (i + 1 < l.length ∧ g.err pms ((j + i + 1 : Nat) : Int) false = 0)
  | [], _, _, i, g, hg => by simp at hg
  | [f], j, h, i, g, hg => by
    rw [errFs] at h
    cases i with
    | zero => simp at hg; subst hg; exact Or.inl ⟨rfl, h⟩
    | succ i => simp at hg
  | f :: f2 :: l, j, h, i, g, hg => by
    rw [errFs] at h
    obtain ⟨h1, h2⟩ := orE_eq_zero h
    cases i with
    | zero => simp at hg; subst hg; exact Or.inr ⟨by simp, h1⟩
    | succ i =>
      rcases errFs_at h2 i g (by simpa using hg) with ⟨h3, h4⟩ | ⟨h3, h4⟩
      · refine Or.inl ⟨by simp at h3 ⊢; omega, ?_⟩
        rw [show j + (i + 1) = j + 1 + i by omega]; exact h4
      · refine Or.inr ⟨by simp at h3 ⊢; omega, ?_⟩
        rw [show j + (i + 1) + 1 = j + 1 + i + 1 by omega]; exact h4
/-- a program that is right -/
structure Prog (ps : List PF) : Prop where
  pos : 0 < ps.length
  six : ps.length ≤ 6
  many : (ps.map fun f => cntP f.cmds).sum ≤ 40
  fine : ∀ g ∈ ps, fineP g.cmds 1 = true
  fns : ∀ i g, ps[i]? = some g → FnOk ps i g
theorem errP_ok {ps : List PF} (h : errP ps = 0) : Prog ps := by
  unfold errP at h
  by_cases h1 : ps.length = 0
  · rw [if_pos h1] at h; omega
  rw [if_neg h1] at h
  by_cases h2 : 6 < ps.length ∨ ps.all (fun f => fineP f.cmds 1) = false ∨ 40 < (ps.map fun f => cntP f.cmds).sum
  · rw [if_pos h2] at h; omega
  rw [if_neg h2] at h
  refine ⟨by omega, by omega, by omega, ?_, ?_⟩
  · have : ps.all (fun f => fineP f.cmds 1) = true := by
      rcases Bool.eq_false_or_eq_true (ps.all (fun f => fineP f.cmds 1)) with h | h
      · exact h
      · exact absurd (Or.inr (Or.inl h)) h2
    rw [List.all_eq_true] at this
    exact this
  · intro i g hg
    rcases errFs_at h i g hg with ⟨h3, h4⟩ | ⟨h3, h4⟩
    · obtain ⟨a, b, c, d, e, f, k, -⟩ := PF.err_ok h4
      exact ⟨a, b, c, d, e, f, ⟨_, by omega, k⟩, fun h => by omega⟩
    · obtain ⟨a, b, c, d, e, f, k, l⟩ := PF.err_ok h4
      exact ⟨a, b, c, d, e, f, ⟨_, by omega, k⟩, fun _ => l rfl⟩
theorem PC.fine_eq (x : PC) (d : Int) : x.fine d = (fineP x.thn (d + 1) && fineP x.els (d + 1)) := by
  obtain ⟨k, v, g, i, e, args, thn, els⟩ := x
  rw [PC.fine]; rfl
theorem fineP_cons (x : PC) (l : List PC) (d : Int) : fineP (x :: l) d = (decide (d ≤ 5) && x.fine d && fineP l d) := by rw [fineP]
theorem fineP_head {x : PC} {l : List PC} {d : Int} (h : fineP (x :: l) d = true) : d ≤ 5 ∧ x.fine d = true ∧ fineP l d = true := by
  rw [fineP_cons, Bool.and_eq_true, Bool.and_eq_true] at h
  exact ⟨of_decide_eq_true h.1.1, h.1.2, h.2⟩
theorem PC.fine_in {x : PC} {d : Int} (h : x.fine d = true) : fineP x.thn (d + 1) = true ∧ fineP x.els (d + 1) = true := by
  rw [PC.fine_eq, Bool.and_eq_true] at h; exact h
theorem fine_list {e : Int} (he : e ≤ 1) : ∀ {l : List PC}, (∀ x ∈ l, ∀ d, x.fine d = true → x.fine (d - e) = true) → ∀ d, fineP l d = true → 0 ≤ e → fineP l (d - e) = true
  | [], _, _, _, _ => by rw [fineP]
  | x :: xs, h, d, hf, h0 => by
    obtain ⟨f1, f2, f3⟩ := fineP_head hf
    rw [fineP_cons, h x (by simp) d f2, fine_list he (fun y hy => h y (by simp [hy])) d f3 h0, decide_eq_true (by omega)]
    rfl
theorem PC.fine_less : ∀ x : PC, ∀ d, x.fine d = true → x.fine (d - 1) = true :=
  PC.ind fun k v g i e args thn els h1 h2 d h => by
    rw [PC.fine_eq, Bool.and_eq_true] at h ⊢
    obtain ⟨a, b⟩ := h
    have ha := fine_list (e := 1) (by decide) (l := thn) h1 (d + 1) a (by decide)
    have hb := fine_list (e := 1) (by decide) (l := els) h2 (d + 1) b (by decide)
    rw [show d - 1 + 1 = d + 1 - 1 by omega]
    exact ⟨ha, hb⟩
theorem fineP_less {l : List PC} {d : Int} (h : fineP l d = true) : fineP l (d - 1) = true := fine_list (e := 1) (by decide) (fun x _ => PC.fine_less x) d h (by decide)
/-- .. a list of them, the first of which has a number -/
def CmdsOk (ps : List PF) (z : List Int) (l : List PC) (a : Int) : Prop := 0 ≤ a ∧ a + cntP l ≤ 40 ∧ fineP l 1 = true ∧ ∃ calls : Int, calls ≤ (ps.length : Int) - 1 ∧ errCs (ps.map PF.params) z calls l = 0
theorem PC.cnt_eq (x : PC) : x.cnt = 1 + cntP x.thn + cntP x.els := by
  obtain ⟨k, v, f, i, e, args, thn, els⟩ := x
  rw [PC.cnt]; rfl
theorem firstC_le (ps : List PF) : ∀ (i : Nat) (g : PF), ps[i]? = some g → 0 ≤ firstC ps i ∧ firstC ps i + cntP g.cmds ≤ ((ps.map fun f => cntP f.cmds).sum : Nat) := by
  induction ps with
  | nil => intro i g h; simp at h
  | cons f ps ih =>
    intro i g h
    cases i with
    | zero => simp at h; subst h; unfold firstC; simp; omega
    | succ i =>
      have := ih i g (by simpa using h)
      unfold firstC at this ⊢
      simp only [List.take_succ_cons, List.map_cons, List.sum_cons]
      omega
theorem Prog.get {ps : List PF} {i : Int} (h0 : 0 ≤ i) (h : i < ps.length) : ps[i.toNat]? = some (ps.getD i.toNat noF) := by
  rw [List.getD_eq_getElem?_getD, List.getElem?_eq_getElem (by omega)]
  rfl
theorem Prog.cmds {ps : List PF} (hp : Prog ps) {i : Nat} {g : PF} (h : ps[i]? = some g) : CmdsOk ps g.sizes g.cmds (firstC ps i) := by
  obtain ⟨h1, h2⟩ := firstC_le ps i g h
  have := hp.many
  exact ⟨h1, by omega, hp.fine g (List.mem_of_getElem? h), (hp.fns i g h).cmds⟩
theorem Prog.args {ps : List PF} (hp : Prog ps) {x : PC} (h0 : 0 ≤ x.fn) (h : x.fn + 1 < ps.length) (hl : (x.args.length : Int) = (ps.map PF.params).getD x.fn.toNat 0) : x.args.length ≤ 3 ∧ (x.args.length : Int) = (ps.getD x.fn.toNat noF).params := by
  have hg := Prog.get h0 (show x.fn < ps.length by omega)
  have h1 := (hp.fns _ _ hg).par3
  rw [List.getD_eq_getElem?_getD, List.getElem?_map, hg] at hl
  simp only [Option.map_some, Option.getD_some] at hl
  omega
structure Ins where
  kind : Int
  a : Int
  b : Int
structure Cd where
  ins : List Ins
  first : List Int
  sizes : List (List Int)
namespace Vm
end Vm
namespace Vm
end Vm
def lastI (k n : Int) : Ins := if k = 1 then ⟨2, n, 0⟩ else if k = 2 then ⟨3, n, 0⟩ else if k = 3 then ⟨4, n, 0⟩ else ⟨5, k, 0⟩
mutual
/-- an expression as code -/
def PE.comp : PE → List Ins
  | .mk k n args => compA args ++ [lastI k n]
def compA : List PE → List Ins
  | [] => []
  | x :: xs => x.comp ++ compA xs
end
mutual
/-- a command as code: its number, where it stands -/
def PC.comp : PC → Int → Int → List Ins
  | .mk k v f i e args thn els, a, b =>
    ⟨1, a, 0⟩ :: (
    if k = 1 then e.comp ++ [⟨6, v, 0⟩]
    else if k = 2 then i.comp ++ (e.comp ++ [⟨7, v, 0⟩])
    else if k = 3 then compA args ++ [⟨12, f, args.length⟩, ⟨6, v, 0⟩]
    else if k = 4 then [⟨8, v, 0⟩]
    else if k = 5 then e.comp ++ [⟨9, 0, 0⟩]
    else if k = 6 then
      e.comp ++ (⟨11, b + e.comp.length + 2 + (compCs thn (a + 1) (b + e.comp.length + 2)).length + 1, 0⟩ :: (compCs thn (a + 1) (b + e.comp.length + 2) ++
        (⟨10, b + e.comp.length + 2 + (compCs thn (a + 1) (b + e.comp.length + 2)).length + 1 + (compCs els (a + 1 + cntP thn) (b + e.comp.length + 2 + (compCs thn (a + 1) (b + e.comp.length + 2)).length + 1)).length, 0⟩ ::
          compCs els (a + 1 + cntP thn) (b + e.comp.length + 2 + (compCs thn (a + 1) (b + e.comp.length + 2)).length + 1))))
    else if k = 7 then
      e.comp ++ (⟨11, b + e.comp.length + 2 + (compCs thn (a + 1) (b + e.comp.length + 2)).length + 1, 0⟩ :: (compCs thn (a + 1) (b + e.comp.length + 2) ++ [⟨10, b, 0⟩]))
    else [])
def compCs : List PC → Int → Int → List Ins
  | [], _, _ => []
  | x :: xs, a, b => x.comp a b ++ compCs xs (a + x.cnt) (b + (x.comp a b).length)
end
/-- a function as code: main is the last one -/
def compF (ps : List PF) (j : Nat) (b : Int) (g : PF) : List Ins :=
  compCs g.cmds (firstC ps j) b ++ (if j + 1 = ps.length then [⟨14, 0, 0⟩] else g.result.comp ++ [⟨13, 0, 0⟩])
def compTo (ps : List PF) : Nat → List Ins
  | 0 => []
  | j + 1 => compTo ps j ++ compF ps j (compTo ps j).length (ps.getD j noF)
/-- a program as code -/
def compP (ps : List PF) : Cd := ⟨compTo ps ps.length, (List.range ps.length).map fun j => ((compTo ps j).length : Int), ps.map PF.sizes⟩
end Go.Proofs.Ytgkpplbomciehaa
