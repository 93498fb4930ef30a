/- A machine that is right stays so. Each lemma states its own conditions. -/
import Derived.Test.YtgkpplbomciehaaSca04
namespace Go.Proofs.Ytgkpplbomciehaa
open Go.RowKit
/-- variables behind some writes -/
def setAll : List (List Int) → List Int → Nat → List (List Int)
  | vs, [], _ => vs
  | vs, n :: l, i => setAll (setC vs i 0 n) l (i + 1)
def wEvs (num a : Int) : List Int → Nat → List Ev
  | [], _ => []
  | n :: l, i => ⟨2, num, a, i, 0, n⟩ :: wEvs num a l (i + 1)
theorem wEvs_len (num a : Int) : ∀ (l : List Int) (i : Nat), (wEvs num a l i).length = l.length
  | [], _ => rfl
  | n :: l, i => by rw [wEvs, List.length_cons, wEvs_len num a l (i + 1), List.length_cons]
theorem Mc.writes_eq (a : Int) : ∀ (l : List Int) (i : Nat) (m : Mc) (f : Fr) (rest : List Fr), m.frames = f :: rest →
    writes a l i m = { m with frames := { f with vars := setAll f.vars l i } :: rest, out := m.out ++ wEvs f.num a l i }
  | [], i, m, f, rest, h => by
    rw [writes, wEvs, setAll, List.append_nil, ← h]
  | n :: l, i, m, f, rest, h => by
    have h1 : (m.write a i 0 n).frames = { f with vars := setC f.vars i 0 n } :: rest := by unfold write top tell; simp only [h]
    rw [writes, writes_eq a l (i + 1) _ _ rest h1]
    unfold write top tell num
    simp only [h, wEvs, setAll, List.append_assoc, List.singleton_append]
theorem Fits.all {z : List Int} {l : List Int} (hn : ∀ n ∈ l, Num n) : ∀ {vs : List (List Int)} {i : Nat}, Fits z vs → Fits z (setAll vs l i) := by
  induction l with
  | nil => exact fun h => h
  | cons n l ih =>
    intro vs i h
    exact ih (fun y hy => hn y (by simp [hy])) (h.set i 0 (hn n (by simp)))
theorem TsOk.one (ps : List PF) (z : List Int) : TsOk ps z [.back] := rfl
theorem Mc.do_back {ps : List PF} {fuel : Int} {m : Mc} {f : Fr} {rest : List Fr} {ts : List Tk} (h : m.frames = f :: rest) (ht : f.tasks = .back :: ts) : m.do_ ps fuel = m.back ps f rest := by
  unfold Mc.do_
  rw [h]
  dsimp only
  rw [ht]
theorem Mc.do_cmd {ps : List PF} {fuel : Int} {m : Mc} {f : Fr} {rest : List Fr} {x : PC} {a : Int} {ts : List Tk} (h : m.frames = f :: rest) (ht : f.tasks = .cmd x a :: ts) : m.do_ ps fuel = if m.steps = fuel then m.end_ a 1
      else if x.kind = 3 then call ps (tell { m with steps := m.steps + 1, frames := { f with at_ := a } :: rest } 1 a 0 0 0) x { f with at_ := a } rest
      else cmd (tell { m with steps := m.steps + 1, frames := { f with at_ := a, tasks := ts } :: rest } 1 a 0 0 0) x a { f with at_ := a, tasks := ts } := by
  unfold Mc.do_
  rw [h]
  dsimp only
  rw [ht]
theorem Mc.back_one {ps : List PF} {m : Mc} {f c : Fr} {rest : List Fr} {x : PC} {a : Int} {ts : List Tk} (h : c.tasks = .cmd x a :: ts) : m.back ps f (c :: rest) = if ((ps.getD f.fn.toNat noF).result.val f.vars).2 ≠ 0 then m.end_ f.at_ ((ps.getD f.fn.toNat noF).result.val f.vars).2
    else write { m.tell 6 c.at_ 0 0 ((ps.getD f.fn.toNat noF).result.val f.vars).1 with frames := { c with tasks := ts } :: rest } c.at_ x.var 0 ((ps.getD f.fn.toNat noF).result.val f.vars).1 := by
  unfold Mc.back
  dsimp only
  rw [h]
theorem Prog.args {ps : List PF} (hp : Prog ps) {x : PC} (h0 : 0 ≤ x.fn) (h : x.fn + 1 < ps.length) (hl : (x.args.length : Int) = (ps.map PF.params).getD x.fn.toNat 0) : x.args.length ≤ 3 ∧ (x.args.length : Int) = (ps.getD x.fn.toNat noF).params := by
  have hg := Prog.get h0 (show x.fn < ps.length by omega)
  have h1 := (hp.fns _ _ hg).par3
  rw [List.getD_eq_getElem?_getD, List.getElem?_map, hg] at hl
  simp only [Option.map_some, Option.getD_some] at hl
  omega
theorem Good.step {ps : List PF} {fuel : Int} {m : Mc} {f : Fr} {rest : List Fr} (hp : Prog ps) (h : Good ps fuel m f rest) :
    (m.do_ ps fuel).out.length ≤ m.out.length + 7 ∧ ((m.do_ ps fuel).over = true ∨ ∃ f' rest', Good ps fuel (m.do_ ps fuel) f' rest' ∧ 3 * m.steps - rest.length < 3 * (m.do_ ps fuel).steps - rest'.length) := by
  obtain ⟨hfr, ⟨g, hf0, hg, hfit, hts, ha1, ha2⟩, hfn, hrst, h5, s0, s1, m0, m1, hin, hlen, hon⟩ := h
  cases htk : f.tasks with
  | nil => rw [htk] at hts; exact hts.elim
  | cons t ts =>
    rw [htk] at hts
    cases t with
    | back =>
      rw [Mc.do_back hfr htk]
      cases rest with
      | nil => exact ⟨by unfold Mc.back Mc.end_; simp, Or.inl rfl⟩
      | cons c rest =>
        obtain ⟨⟨gc, hc0, hgc, hcfit, hcts, hca1, hca2⟩, ⟨x, a, ts2, hctk, hx3⟩, hcfn, hrr⟩ := hrst
        rw [Mc.back_one hctk]
        split
        · exact ⟨by unfold Mc.end_; simp, Or.inl rfl⟩
        · rename_i hval
          rw [hctk] at hcts
          have hr := (hp.fns _ _ hg).res (by have := hfn (by simp); omega)
          have hgd : ps.getD f.fn.toNat noF = g := by rw [List.getD_eq_getElem?_getD, hg]; rfl
          rw [hgd]
          have hn := (PE.val_num hfit g.result (PE.err_ok hr)).1
          refine ⟨by unfold Mc.write Mc.top Mc.tell; simp, Or.inr ⟨{ c with tasks := ts2, vars := setC c.vars x.var 0 (g.result.val f.vars).1 }, rest, ⟨rfl, ⟨gc, hc0, hgc, hcfit.set _ _ hn, hcts.2, hca1, hca2⟩, hcfn, hrr, by simp at h5; omega, s0, s1, m0, m1, hin, ?_, hon⟩, ?_⟩⟩
          · unfold Mc.write Mc.top Mc.tell
            simp at hlen ⊢
            omega
          · unfold Mc.write Mc.top Mc.tell
            simp only [List.length_cons]
            omega
    | cmd x a =>
      rw [Mc.do_cmd hfr htk]
      obtain ⟨hx, hts'⟩ := hts
      obtain ⟨calls, hcl, hci⟩ := hx.is
      obtain ⟨hx0, hx40, -⟩ := id hx
      by_cases hst : m.steps = fuel
      · rw [if_pos hst]; exact ⟨by unfold Mc.end_; simp, Or.inl rfl⟩
      rw [if_neg hst]
      by_cases h3 : x.kind = 3
      · rw [if_pos h3]
        unfold Mc.call
        have hnum := argsV_num hfit hci.all
        have hfn3 := hci.fn h3
        obtain ⟨hl3, -⟩ := hp.args hfn3.1 (by omega) (hci.args h3)
        dsimp only
        split
        · exact ⟨by unfold Mc.end_ Mc.tell; simp, Or.inl rfl⟩
        split
        · exact ⟨by unfold Mc.end_ Mc.tell; simp, Or.inl rfl⟩
        rename_i hv0 hr5
        have hll := argsV_len (vs := f.vars) (l := x.args) (by omega)
        have hgg := Prog.get hfn3.1 (show x.fn < ps.length by omega)
        rw [Mc.writes_eq _ _ _ _ _ _ rfl]
        have hfz := Fits.zero (hp.fns _ _ hgg).sz
        refine ⟨by unfold Mc.tell; simp [wEvs_len]; omega, Or.inr ⟨_, { f with at_ := a } :: rest, ⟨rfl, ⟨_, hfn3.1, hgg, Fits.all hnum hfz, CmdsOk.push (TsOk.one _ _) (hp.cmds hgg), by simp, by simp⟩, fun _ => by dsimp only; omega, ⟨⟨g, hf0, hg, hfit, by rw [htk]; exact ⟨hx, hts'⟩, by dsimp only; omega, by dsimp only; omega⟩, ⟨x, a, ts, htk, h3⟩, hfn, hrst⟩, ?_, ?_, ?_, ?_, ?_, hin, ?_, hon⟩, ?_⟩⟩
        · simp; omega
        · unfold Mc.tell; dsimp only; omega
        · unfold Mc.tell; dsimp only; omega
        · unfold Mc.tell; dsimp only; omega
        · unfold Mc.tell; dsimp only; omega
        · unfold Mc.tell; simp [wEvs_len]; omega
        · unfold Mc.tell; simp; omega
      · rw [if_neg h3]
        have haa : a ≤ 40 := by omega
        have hmk : ∀ (m' : Mc) (f' : Fr), m'.frames = f' :: rest → f'.fn = f.fn → f'.at_ = a → Fits g.sizes f'.vars → TsOk ps g.sizes f'.tasks → m'.steps = m.steps + 1 → m'.made = m.made → (∀ n ∈ m'.inp, Num n) → m'.out.length ≤ m.out.length + 7 → m'.over = false →
            m'.out.length ≤ m.out.length + 7 ∧ (m'.over = true ∨ ∃ f' rest', Good ps fuel m' f' rest' ∧ 3 * m.steps - rest.length < 3 * m'.steps - rest'.length) := by
          intro m' f' e1 e2 e3 e4 e5 e6 e7 e8 e9 e10
          refine ⟨e9, Or.inr ⟨f', rest, ⟨e1, ⟨g, by rw [e2]; exact hf0, by rw [e2]; exact hg, e4, e5, by omega, by omega⟩, by rw [e2]; exact hfn, hrst, h5, by omega, by omega, by omega, by omega, e8, by omega, e10⟩, by omega⟩⟩
        unfold Mc.cmd
        dsimp only
        by_cases h4 : x.kind = 4
        · rw [if_pos h4]
          refine hmk _ { f with at_ := a, tasks := ts, vars := setC f.vars x.var 0 (m.inp.headD 0) } rfl rfl rfl (hfit.set _ _ ?_) hts' rfl rfl (fun n hn => hin n (List.mem_of_mem_tail hn)) ?_ hon
          · cases hi : m.inp with
            | nil => unfold Num; decide
            | cons n l => exact hin n (by rw [hi]; simp)
          · unfold Mc.write Mc.top Mc.tell; simp
        rw [if_neg h4]
        have hne := PE.val_num hfit x.expr (PE.err_ok (hci.expr h3 h4))
        by_cases hA : x.kind = 2 ∧ (x.index.val f.vars).2 ≠ 0
        · rw [if_pos hA]; exact ⟨by unfold Mc.end_ Mc.tell; simp, Or.inl rfl⟩
        rw [if_neg hA]
        by_cases hB : (x.expr.val f.vars).2 ≠ 0
        · rw [if_pos hB]; exact ⟨by unfold Mc.end_ Mc.tell; simp, Or.inl rfl⟩
        rw [if_neg hB]
        by_cases h2 : x.kind = 2
        · rw [if_pos h2]
          by_cases hC : 0 ≤ (x.index.val f.vars).1 ∧ (x.index.val f.vars).1 < (f.vars.getD x.var.toNat []).length
          · rw [if_pos hC]
            refine hmk _ { f with at_ := a, tasks := ts, vars := setC f.vars x.var _ _ } rfl rfl rfl (hfit.set _ _ hne.1) hts' rfl rfl hin ?_ hon
            unfold Mc.write Mc.top Mc.tell; simp
          · rw [if_neg hC]; exact ⟨by unfold Mc.end_ Mc.tell; simp, Or.inl rfl⟩
        rw [if_neg h2]
        by_cases h1 : x.kind = 1
        · rw [if_pos h1]
          refine hmk _ { f with at_ := a, tasks := ts, vars := setC f.vars x.var _ _ } rfl rfl rfl (hfit.set _ _ hne.1) hts' rfl rfl hin ?_ hon
          unfold Mc.write Mc.top Mc.tell; simp
        rw [if_neg h1]
        by_cases h5 : x.kind = 5
        · rw [if_pos h5]
          refine hmk _ { f with at_ := a, tasks := ts } rfl rfl rfl hfit hts' rfl rfl hin ?_ hon
          unfold Mc.tell; simp
        rw [if_neg h5]
        by_cases h6 : x.kind = 6
        · rw [if_pos h6]
          by_cases hn : (x.expr.val f.vars).1 ≠ 0
          · rw [if_pos hn]
            refine hmk _ { f with at_ := a, tasks := _ } rfl rfl rfl hfit (CmdsOk.push hts' hx.thn) rfl rfl hin ?_ hon
            unfold Mc.top Mc.tell; simp
          · rw [if_neg hn]
            refine hmk _ { f with at_ := a, tasks := _ } rfl rfl rfl hfit (CmdsOk.push hts' hx.els) rfl rfl hin ?_ hon
            unfold Mc.top Mc.tell; simp
        rw [if_neg h6]
        by_cases hn : (x.expr.val f.vars).1 ≠ 0
        · rw [if_pos hn]
          refine hmk _ { f with at_ := a, tasks := _ } rfl rfl rfl hfit (CmdsOk.push (ts := .cmd x a :: ts) ⟨hx, hts'⟩ hx.thn) rfl rfl hin ?_ hon
          unfold Mc.top Mc.tell; simp
        · rw [if_neg hn]
          refine hmk _ { f with at_ := a, tasks := ts } rfl rfl rfl hfit hts' rfl rfl hin ?_ hon
          unfold Mc.tell; simp
theorem Good.start {ps : List PF} {inp : List Int} {fuel : Int} (hp : Prog ps) (hi : ∀ n ∈ inp, Num n) (hf : 0 ≤ fuel) : ∃ f, Good ps fuel (startM ps inp) f [] := by
  have hpos := hp.pos
  have hg : ps[ps.length - 1]? = some (ps.getD (ps.length - 1) noF) := by
    rw [List.getD_eq_getElem?_getD, List.getElem?_eq_getElem (by omega)]; rfl
  have he : ((ps.length : Int) - 1).toNat = ps.length - 1 := by omega
  refine ⟨_, ⟨rfl, ⟨_, by dsimp only; omega, by dsimp only; rw [he]; exact hg, Fits.zero (hp.fns _ _ hg).sz, CmdsOk.push (TsOk.one _ _) (hp.cmds hg), by simp, by simp⟩, fun h => absurd rfl h, trivial, by simp, by simp [startM], by simpa [startM] using hf, by simp [startM], by simp [startM], hi, by simp [startM], rfl⟩⟩
end Go.Proofs.Ytgkpplbomciehaa
