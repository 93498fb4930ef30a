/- Programs that are right, and machines that run them: what holds at each step. Each lemma states its own conditions. -/
import Derived.Test.YtgkpplbomciehaaSca03
namespace Go.Proofs.Ytgkpplbomciehaa
open Go.RowKit
theorem errPs_mem {z : List Int} {xs : List PE} (h : errPs z xs = 0) : ∀ x ∈ xs, x.err z = 0 := by
  induction xs with
  | nil => intro x hx; simp at hx
  | cons y ys ih =>
    rw [errPs] at h
    obtain ⟨h1, h2⟩ := orE_eq_zero h
    intro x hx
    rcases List.mem_cons.1 hx with rfl | hx
    · exact h1
    · exact ih h2 x hx
/-- what a command that is right is -/
structure CmdIs (pms z : List Int) (calls : Int) (x : PC) : Prop where
  k1 : 1 ≤ x.kind
  k7 : x.kind ≤ 7
  var : x.kind ≤ 4 → 0 ≤ x.var ∧ x.var < z.length
  fn : x.kind = 3 → 0 ≤ x.fn ∧ x.fn < calls
  one : x.kind ≤ 4 → x.kind ≠ 2 → z.getD x.var.toNat 0 ≤ 0
  args : x.kind = 3 → (x.args.length : Int) = pms.getD x.fn.toNat 0
  index : x.kind = 2 → x.index.err z = 0
  expr : x.kind ≠ 3 → x.kind ≠ 4 → x.expr.err z = 0
  all : ∀ y ∈ x.args, y.err z = 0
theorem PC.own_ok {pms z : List Int} {calls : Int} {x : PC} (h : x.own pms z calls = 0) : CmdIs pms z calls x := by
  unfold PC.own at h
  by_cases h1 : x.kind < 1 ∨ 7 < x.kind
  · rw [if_pos h1] at h; omega
  rw [if_neg h1] at h
  by_cases h2 : (x.kind ≤ 4 ∧ ¬ (0 ≤ x.var ∧ x.var < z.length)) ∨ (x.kind = 3 ∧ ¬ (0 ≤ x.fn ∧ x.fn < calls))
  · rw [if_pos h2] at h; omega
  rw [if_neg h2] at h
  by_cases h3 : x.kind ≤ 4 ∧ (0 < z.getD x.var.toNat 0 ∧ x.kind ≠ 2 ∨ z.getD x.var.toNat 0 = 0 ∧ x.kind = 2)
  · rw [if_pos h3] at h; omega
  rw [if_neg h3] at h
  split at h
  · omega
  by_cases h4 : x.kind = 3 ∧ (x.args.length : Int) ≠ pms.getD x.fn.toNat 0
  · rw [if_pos h4] at h; omega
  rw [if_neg h4] at h
  obtain ⟨h5, h6⟩ := orE_eq_zero h
  obtain ⟨h7, h8⟩ := orE_eq_zero h6
  refine ⟨by omega, by omega, fun hk => ?_, fun hk => ?_, fun hk hk2 => ?_, fun hk => ?_, fun hk => ?_, fun hk hk2 => ?_, errPs_mem h8⟩
  · omega
  · omega
  · have : ¬ 0 < z.getD x.var.toNat 0 := fun hz => h3 ⟨hk, Or.inl ⟨hz, hk2⟩⟩
    omega
  · omega
  · rwa [if_pos hk] at h5
  · rwa [if_pos ⟨hk, hk2⟩] at h7
theorem PC.err_ok {pms z : List Int} {calls : Int} {x : PC} (h : x.err pms z calls = 0) : CmdIs pms z calls x ∧ errCs pms z calls x.thn = 0 ∧ errCs pms z calls x.els = 0 := by
  obtain ⟨k, v, f, i, e, args, thn, els⟩ := x
  rw [PC.err] at h
  obtain ⟨h1, h2⟩ := orE_eq_zero h
  obtain ⟨h3, h4⟩ := orE_eq_zero h2
  exact ⟨PC.own_ok h1, h3, h4⟩
/-- a function of a program that is right -/
structure FnOk (ps : List PF) (i : Nat) (g : PF) : Prop where
  par0 : 0 ≤ g.params
  par1 : g.params ≤ g.sizes.length
  par3 : g.params ≤ 3
  var6 : (g.sizes.length : Int) - g.params ≤ 6
  sz : ∀ n ∈ g.sizes, 0 ≤ n ∧ n ≤ 8
  pz : ∀ n ∈ g.sizes.take g.params.toNat, n = 0
  cmds : ∃ calls : Int, calls ≤ (ps.length : Int) - 1 ∧ errCs (ps.map PF.params) g.sizes calls g.cmds = 0
  res : i + 1 < ps.length → g.result.err g.sizes = 0
theorem PF.err_ok {pms : List Int} {calls : Int} {main : Bool} {g : PF} (h : g.err pms calls main = 0) :
    0 ≤ g.params ∧ g.params ≤ g.sizes.length ∧ g.params ≤ 3 ∧ (g.sizes.length : Int) - g.params ≤ 6 ∧ (∀ n ∈ g.sizes, 0 ≤ n ∧ n ≤ 8) ∧ (∀ n ∈ g.sizes.take g.params.toNat, n = 0) ∧ errCs pms g.sizes calls g.cmds = 0 ∧ (main = false → g.result.err g.sizes = 0) := by
  unfold PF.err at h
  by_cases h1 : g.params < 0 ∨ (g.sizes.length : Int) < g.params
  · rw [if_pos h1] at h; omega
  rw [if_neg h1] at h
  by_cases h2 : 3 < g.params ∨ 6 < (g.sizes.length : Int) - g.params
  · rw [if_pos h2] at h; omega
  rw [if_neg h2] at h
  by_cases h3 : g.sizes.all (fun n => decide (0 ≤ n ∧ n ≤ 8)) = false
  · rw [if_pos h3] at h; omega
  rw [if_neg h3] at h
  by_cases h4 : (g.sizes.take g.params.toNat).all (fun n => decide (n = 0)) = false ∨ (main = true ∧ 0 < g.params)
  · rw [if_pos h4] at h; omega
  rw [if_neg h4] at h
  obtain ⟨h5, h6⟩ := orE_eq_zero h
  refine ⟨by omega, by omega, by omega, by omega, ?_, ?_, h5, ?_⟩
  · have := Bool.not_eq_false _ |>.mp h3
    rw [List.all_eq_true] at this
    exact fun n hn => of_decide_eq_true (this n hn)
  · have : (g.sizes.take g.params.toNat).all (fun n => decide (n = 0)) = true := by
      rcases Bool.eq_false_or_eq_true ((g.sizes.take g.params.toNat).all (fun n => decide (n = 0))) with h | h
      · exact h
      · exact absurd (Or.inl h) h4
    rw [List.all_eq_true] at this
    exact fun n hn => of_decide_eq_true (this n hn)
  · intro hm
    rw [hm] at h6
    simpa using h6
theorem errFs_at {pms : List Int} : ∀ {l : List PF} {j : Nat}, errFs pms j l = 0 → ∀ i g, l[i]? = some g → (i + 1 = l.length ∧ g.err pms ((j + i : Nat) : Int) true = 0) ∨ (i + 1 < l.length ∧ g.err pms ((j + i + 1 : Nat) : Int) false = 0)
  | [], _, _, i, g, hg => by simp at hg
  | [f], j, h, i, g, hg => by
    rw [errFs] at h
    cases i with
    | zero => simp at hg; subst hg; exact Or.inl ⟨rfl, h⟩
    | succ i => simp at hg
  | f :: f2 :: l, j, h, i, g, hg => by
    rw [errFs] at h
    obtain ⟨h1, h2⟩ := orE_eq_zero h
    cases i with
    | zero => simp at hg; subst hg; exact Or.inr ⟨by simp, h1⟩
    | succ i =>
      rcases errFs_at h2 i g (by simpa using hg) with ⟨h3, h4⟩ | ⟨h3, h4⟩
      · refine Or.inl ⟨by simp at h3 ⊢; omega, ?_⟩
        rw [show j + (i + 1) = j + 1 + i by omega]; exact h4
      · refine Or.inr ⟨by simp at h3 ⊢; omega, ?_⟩
        rw [show j + (i + 1) + 1 = j + 1 + i + 1 by omega]; exact h4
/-- a program that is right -/
structure Prog (ps : List PF) : Prop where
  pos : 0 < ps.length
  six : ps.length ≤ 6
  many : (ps.map fun f => cntP f.cmds).sum ≤ 40
  fine : ∀ g ∈ ps, fineP g.cmds 1 = true
  fns : ∀ i g, ps[i]? = some g → FnOk ps i g
theorem errP_ok {ps : List PF} (h : errP ps = 0) : Prog ps := by
  unfold errP at h
  by_cases h1 : ps.length = 0
  · rw [if_pos h1] at h; omega
  rw [if_neg h1] at h
  by_cases h2 : 6 < ps.length ∨ ps.all (fun f => fineP f.cmds 1) = false ∨ 40 < (ps.map fun f => cntP f.cmds).sum
  · rw [if_pos h2] at h; omega
  rw [if_neg h2] at h
  refine ⟨by omega, by omega, by omega, ?_, ?_⟩
  · have : ps.all (fun f => fineP f.cmds 1) = true := by
      rcases Bool.eq_false_or_eq_true (ps.all (fun f => fineP f.cmds 1)) with h | h
      · exact h
      · exact absurd (Or.inr (Or.inl h)) h2
    rw [List.all_eq_true] at this
    exact this
  · intro i g hg
    rcases errFs_at h i g hg with ⟨h3, h4⟩ | ⟨h3, h4⟩
    · obtain ⟨a, b, c, d, e, f, k, -⟩ := PF.err_ok h4
      exact ⟨a, b, c, d, e, f, ⟨_, by omega, k⟩, fun h => by omega⟩
    · obtain ⟨a, b, c, d, e, f, k, l⟩ := PF.err_ok h4
      exact ⟨a, b, c, d, e, f, ⟨_, by omega, k⟩, fun _ => l rfl⟩
theorem PC.fine_eq (x : PC) (d : Int) : x.fine d = (fineP x.thn (d + 1) && fineP x.els (d + 1)) := by
  obtain ⟨k, v, g, i, e, args, thn, els⟩ := x
  rw [PC.fine]; rfl
theorem fineP_cons (x : PC) (l : List PC) (d : Int) : fineP (x :: l) d = (decide (d ≤ 5) && x.fine d && fineP l d) := by rw [fineP]
theorem fineP_head {x : PC} {l : List PC} {d : Int} (h : fineP (x :: l) d = true) : d ≤ 5 ∧ x.fine d = true ∧ fineP l d = true := by
  rw [fineP_cons, Bool.and_eq_true, Bool.and_eq_true] at h
  exact ⟨of_decide_eq_true h.1.1, h.1.2, h.2⟩
theorem PC.fine_in {x : PC} {d : Int} (h : x.fine d = true) : fineP x.thn (d + 1) = true ∧ fineP x.els (d + 1) = true := by
  rw [PC.fine_eq, Bool.and_eq_true] at h; exact h
theorem fine_list {e : Int} (he : e ≤ 1) : ∀ {l : List PC}, (∀ x ∈ l, ∀ d, x.fine d = true → x.fine (d - e) = true) → ∀ d, fineP l d = true → 0 ≤ e → fineP l (d - e) = true
  | [], _, _, _, _ => by rw [fineP]
  | x :: xs, h, d, hf, h0 => by
    obtain ⟨f1, f2, f3⟩ := fineP_head hf
    rw [fineP_cons, h x (by simp) d f2, fine_list he (fun y hy => h y (by simp [hy])) d f3 h0, decide_eq_true (by omega)]
    rfl
theorem PC.fine_less : ∀ x : PC, ∀ d, x.fine d = true → x.fine (d - 1) = true :=
  PC.ind fun k v g i e args thn els h1 h2 d h => by
    rw [PC.fine_eq, Bool.and_eq_true] at h ⊢
    obtain ⟨a, b⟩ := h
    have ha := fine_list (e := 1) (by decide) (l := thn) h1 (d + 1) a (by decide)
    have hb := fine_list (e := 1) (by decide) (l := els) h2 (d + 1) b (by decide)
    rw [show d - 1 + 1 = d + 1 - 1 by omega]
    exact ⟨ha, hb⟩
theorem fineP_less {l : List PC} {d : Int} (h : fineP l d = true) : fineP l (d - 1) = true := fine_list (e := 1) (by decide) (fun x _ => PC.fine_less x) d h (by decide)
/-- a command that may be done, with its number -/
def CmdOk (ps : List PF) (z : List Int) (x : PC) (a : Int) : Prop := 0 ≤ a ∧ a + x.cnt ≤ 40 ∧ x.fine 1 = true ∧ ∃ calls : Int, calls ≤ (ps.length : Int) - 1 ∧ x.err (ps.map PF.params) z calls = 0
/-- .. a list of them, the first of which has a number -/
def CmdsOk (ps : List PF) (z : List Int) (l : List PC) (a : Int) : Prop := 0 ≤ a ∧ a + cntP l ≤ 40 ∧ fineP l 1 = true ∧ ∃ calls : Int, calls ≤ (ps.length : Int) - 1 ∧ errCs (ps.map PF.params) z calls l = 0
def TsOk (ps : List PF) (z : List Int) : List Tk → Prop
  | [] => False
  | .back :: ts => ts = []
  | .cmd x a :: ts => CmdOk ps z x a ∧ TsOk ps z ts
theorem CmdsOk.head {ps : List PF} {z : List Int} {x : PC} {l : List PC} {a : Int} (h : CmdsOk ps z (x :: l) a) : CmdOk ps z x a ∧ CmdsOk ps z l (a + x.cnt) := by
  obtain ⟨h1, h2, hf, c, h3, h4⟩ := h
  rw [cntP] at h2
  rw [errCs] at h4
  obtain ⟨h5, h6⟩ := orE_eq_zero h4
  obtain ⟨-, f1, f2⟩ := fineP_head hf
  exact ⟨⟨h1, by omega, f1, c, h3, h5⟩, by omega, by omega, f2, c, h3, h6⟩
theorem CmdsOk.push {ps : List PF} {z : List Int} {ts : List Tk} (ht : TsOk ps z ts) : ∀ {l : List PC} {a : Int}, CmdsOk ps z l a → TsOk ps z (pushT l a ++ ts)
  | [], _, _ => ht
  | _x :: _l, _a, h => ⟨h.head.1, CmdsOk.push ht h.head.2⟩
theorem PC.cnt_eq (x : PC) : x.cnt = 1 + cntP x.thn + cntP x.els := by
  obtain ⟨k, v, f, i, e, args, thn, els⟩ := x
  rw [PC.cnt]; rfl
theorem CmdOk.is {ps : List PF} {z : List Int} {x : PC} {a : Int} (h : CmdOk ps z x a) : ∃ calls : Int, calls ≤ (ps.length : Int) - 1 ∧ CmdIs (ps.map PF.params) z calls x := by
  obtain ⟨-, -, -, c, h1, h2⟩ := h
  exact ⟨c, h1, (PC.err_ok h2).1⟩
theorem CmdOk.thn {ps : List PF} {z : List Int} {x : PC} {a : Int} (h : CmdOk ps z x a) : CmdsOk ps z x.thn (a + 1) := by
  obtain ⟨h1, h2, hf, c, h3, h4⟩ := h
  rw [PC.cnt_eq] at h2
  exact ⟨by omega, by omega, fineP_less (PC.fine_in hf).1, c, h3, (PC.err_ok h4).2.1⟩
theorem CmdOk.els {ps : List PF} {z : List Int} {x : PC} {a : Int} (h : CmdOk ps z x a) : CmdsOk ps z x.els (a + 1 + cntP x.thn) := by
  obtain ⟨h1, h2, hf, c, h3, h4⟩ := h
  rw [PC.cnt_eq] at h2
  exact ⟨by omega, by omega, fineP_less (PC.fine_in hf).2, c, h3, (PC.err_ok h4).2.2⟩
theorem firstC_le (ps : List PF) : ∀ (i : Nat) (g : PF), ps[i]? = some g → 0 ≤ firstC ps i ∧ firstC ps i + cntP g.cmds ≤ ((ps.map fun f => cntP f.cmds).sum : Nat) := by
  induction ps with
  | nil => intro i g h; simp at h
  | cons f ps ih =>
    intro i g h
    cases i with
    | zero => simp at h; subst h; unfold firstC; simp; omega
    | succ i =>
      have := ih i g (by simpa using h)
      unfold firstC at this ⊢
      simp only [List.take_succ_cons, List.map_cons, List.sum_cons]
      omega
theorem Prog.get {ps : List PF} {i : Int} (h0 : 0 ≤ i) (h : i < ps.length) : ps[i.toNat]? = some (ps.getD i.toNat noF) := by
  rw [List.getD_eq_getElem?_getD, List.getElem?_eq_getElem (by omega)]
  rfl
theorem Prog.cmds {ps : List PF} (hp : Prog ps) {i : Nat} {g : PF} (h : ps[i]? = some g) : CmdsOk ps g.sizes g.cmds (firstC ps i) := by
  obtain ⟨h1, h2⟩ := firstC_le ps i g h
  have := hp.many
  exact ⟨h1, by omega, hp.fine g (List.mem_of_getElem? h), (hp.fns i g h).cmds⟩
theorem Fits.set {z : List Int} {vs : List (List Int)} (h : Fits z vs) (v i : Int) {n : Int} (hn : Num n) : Fits z (setC vs v i n) := by
  unfold setC
  refine ⟨by rw [List.length_set]; exact h.1, fun j l hj => ?_⟩
  rw [List.getElem?_set] at hj
  split at hj
  · rename_i hv
    split at hj
    · rename_i hlt
      obtain rfl := Option.some.inj hj
      have hx : vs[v.toNat]? = some (vs.getD v.toNat []) := by rw [List.getD_eq_getElem?_getD, List.getElem?_eq_getElem hlt]; rfl
      obtain ⟨h1, h2⟩ := h.2 _ _ hx
      refine ⟨fun hz => by rw [List.length_set]; exact h1 (by rw [hv]; exact hz), fun y hy => ?_⟩
      rcases List.mem_or_eq_of_mem_set hy with hy | rfl
      · exact h2 y hy
      · exact hn
    · cases hj
  · exact h.2 j l hj
theorem Fits.zero {z : List Int} (h : ∀ n ∈ z, 0 ≤ n ∧ n ≤ 8) : Fits z (zeroV z) := by
  unfold zeroV
  refine ⟨by rw [List.length_map], fun i l hl => ?_⟩
  rw [List.getElem?_map] at hl
  cases hz : z[i]? with
  | none => rw [hz] at hl; cases hl
  | some n =>
    rw [hz] at hl
    obtain rfl := Option.some.inj hl
    have := h n (List.mem_of_getElem? hz)
    refine ⟨fun h0 => ?_, fun y hy => ?_⟩
    · rw [List.length_replicate]
      rw [List.getD_eq_getElem?_getD, hz, Option.getD_some] at h0
      split <;> omega
    · obtain ⟨-, rfl⟩ := List.mem_replicate.1 hy
      unfold Num; decide
theorem Fits.len {z : List Int} {vs : List (List Int)} (h : Fits z vs) {v : Int} (h0 : 0 ≤ v) (hv : v < z.length) (hz : z.getD v.toNat 0 ≤ 0) : 0 < (vs.getD v.toNat []).length := by
  have hlt : v.toNat < vs.length := by rw [h.1]; omega
  have hx : vs[v.toNat]? = some (vs.getD v.toNat []) := by rw [List.getD_eq_getElem?_getD, List.getElem?_eq_getElem hlt]; rfl
  exact (h.2 _ _ hx).1 hz
/-- a frame of a run -/
def FrOk (ps : List PF) (f : Fr) : Prop := ∃ g, 0 ≤ f.fn ∧ ps[f.fn.toNat]? = some g ∧ Fits g.sizes f.vars ∧ TsOk ps g.sizes f.tasks ∧ -1 ≤ f.at_ ∧ f.at_ ≤ 40
/-- frames that wait for those that they made -/
def RestOk (ps : List PF) : List Fr → Prop
  | [] => True
  | c :: r => FrOk ps c ∧ (∃ x a ts, c.tasks = .cmd x a :: ts ∧ x.kind = 3) ∧ (r ≠ [] → c.fn + 1 < ps.length) ∧ RestOk ps r
/-- a machine that is not over -/
structure Good (ps : List PF) (fuel : Int) (m : Mc) (f : Fr) (rest : List Fr) : Prop where
  fr : m.frames = f :: rest
  ok : FrOk ps f
  fn : rest ≠ [] → f.fn + 1 < ps.length
  rst : RestOk ps rest
  five : rest.length ≤ 5
  s0 : 0 ≤ m.steps
  s1 : m.steps ≤ fuel
  m0 : 1 ≤ m.made
  m1 : m.made ≤ m.steps + 1
  inp : ∀ n ∈ m.inp, Num n
  len : (m.out.length : Int) + 2 * rest.length ≤ 7 * m.steps
  on : m.over = false
theorem argsV_len {vs : List (List Int)} : ∀ {l : List PE}, (argsV vs l).2 = 0 → (argsV vs l).1.length = l.length
  | [], _ => rfl
  | x :: xs, h => by
    rw [argsV] at h ⊢
    split at h
    · rename_i h1; exact absurd h h1
    · rename_i h1
      rw [if_neg h1]
      simp [argsV_len (l := xs) h]
theorem argsV_num {z : List Int} {vs : List (List Int)} (hf : Fits z vs) : ∀ {l : List PE}, (∀ y ∈ l, y.err z = 0) → ∀ n ∈ (argsV vs l).1, Num n
  | [], _, n, hn => by simp [argsV] at hn
  | x :: xs, h, n, hn => by
    rw [argsV] at hn
    split at hn
    · simp at hn
    · rcases List.mem_cons.1 hn with rfl | hn
      · exact (PE.val_num hf x (PE.err_ok (h x (by simp)))).1
      · exact argsV_num hf (fun y hy => h y (by simp [hy])) n hn
end Go.Proofs.Ytgkpplbomciehaa
