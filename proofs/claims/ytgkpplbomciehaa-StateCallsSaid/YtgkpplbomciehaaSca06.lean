/- Runs of a program, step by step: what is told, what is read. Each lemma states its own conditions. -/
import Derived.Test.YtgkpplbomciehaaSca05
namespace Go.Proofs.Ytgkpplbomciehaa
open Go.RowKit
/-- so many steps events have; the values that were read -/
def stepsL (l : List Ev) : Nat := l.countP fun e => e.kind == 1
def valsL (l : List Ev) : List Int := (l.filter fun e => e.kind == 3).map Ev.value
theorem stepsL_app (a b : List Ev) : stepsL (a ++ b) = stepsL a + stepsL b := List.countP_append ..
theorem valsL_app (a b : List Ev) : valsL (a ++ b) = valsL a ++ valsL b := by unfold valsL; rw [List.filter_append, List.map_append]
/-- other numbers that come in -/
def Mc.to_ (m : Mc) (i : List Int) : Mc := { m with inp := i }
section
variable {ps : List PF} {m : Mc} {i : List Int}
theorem Mc.to_writes (a : Int) : ∀ (l : List Int) (k : Nat) (m : Mc), Mc.writes a l k (m.to_ i) = (Mc.writes a l k m).to_ i
  | [], _, _ => rfl
  | n :: l, k, m => by
    rw [Mc.writes, Mc.writes, ← Mc.to_writes a l (k + 1)]
    rfl
theorem Mc.to_call {x : PC} {f : Fr} {rest : List Fr} : Mc.call ps (m.to_ i) x f rest = (Mc.call ps m x f rest).to_ i := by
  unfold Mc.call
  split
  · rfl
  split
  · rfl
  exact Mc.to_writes f.at_ (argsV f.vars x.args).1 0 { m.tell 5 f.at_ x.fn 0 m.made with made := m.made + 1, frames := ⟨m.made, x.fn, -1, zeroV (ps.getD x.fn.toNat noF).sizes, pushT (ps.getD x.fn.toNat noF).cmds (firstC ps x.fn.toNat) ++ [.back]⟩ :: m.frames }
theorem Mc.to_back {f : Fr} {rest : List Fr} : Mc.back ps (m.to_ i) f rest = (Mc.back ps m f rest).to_ i := by
  cases rest with
  | nil => rfl
  | cons c rest =>
    unfold Mc.back
    dsimp only
    split
    · rfl
    split
    · rfl
    · rfl
theorem Mc.to_cmd {x : PC} {a : Int} {f : Fr} (h : x.kind ≠ 4) : Mc.cmd (m.to_ i) x a f = (Mc.cmd m x a f).to_ i := by
  unfold Mc.cmd
  rw [if_neg h, if_neg h]
  repeat' split
  all_goals rfl
end
/-- how expressions end: never for want of fuel -/
theorem opV_how (k a b : Int) : (opV k a b).2 ≠ 1 := by
  unfold opV
  repeat' split
  all_goals simp
theorem PE.val_how (vs : List (List Int)) : ∀ e : PE, (e.val vs).2 ≠ 1 :=
  PE.ind fun k n args ih => by
    rw [PE.val]
    split
    · simp
    split
    · simp
    rw [valP_map]
    cases args with
    | nil => simp [valOf]
    | cons a t =>
      have h1 := ih a (by simp)
      rw [List.map_cons, valOf_cons]
      split
      · exact h1
      split
      · split <;> simp
      · cases t with
        | nil => simp
        | cons b t =>
          have h2 := ih b (by simp)
          rw [List.map_cons]
          dsimp only
          split
          · exact h2
          · exact opV_how _ _ _
theorem argsV_how (vs : List (List Int)) : ∀ l : List PE, (argsV vs l).2 ≠ 1
  | [] => by simp [argsV]
  | x :: xs => by
    rw [argsV]
    split
    · exact PE.val_how vs x
    · exact argsV_how vs xs
/-- a machine goes on: it tells events, none of which is an end; it reads what comes in -/
structure Adv (m m' : Mc) (l : List Ev) : Prop where
  out : m'.out = m.out ++ l
  on : m'.over = m.over
  k : ∀ e ∈ l, e.kind ≠ 7
  st : m'.steps = m.steps + stepsL l
  inp : m'.inp = m.inp.drop (valsL l).length
  fed : ∀ i x, (valsL l)[i]? = some x → x = m.inp.getD i 0
theorem Adv.rfl_ (m : Mc) : Adv m m [] := ⟨by simp, rfl, by simp, by simp [stepsL], by simp [valsL], by simp [valsL]⟩
theorem Adv.tr {a b c : Mc} {l k : List Ev} (h : Adv a b l) (g : Adv b c k) : Adv a c (l ++ k) := by
  refine ⟨by rw [g.out, h.out, List.append_assoc], g.on.trans h.on, fun e he => ?_, by rw [g.st, h.st, stepsL_app]; omega, by rw [g.inp, h.inp, valsL_app, List.length_append, List.drop_drop], fun i x hx => ?_⟩
  · rcases List.mem_append.1 he with h1 | h1
    · exact h.k e h1
    · exact g.k e h1
  · rw [valsL_app] at hx
    rcases Nat.lt_or_ge i (valsL l).length with hi | hi
    · rw [List.getElem?_append_left hi] at hx
      exact h.fed i x hx
    · rw [List.getElem?_append_right hi] at hx
      rw [g.fed _ x hx, h.inp, List.getD_eq_getElem?_getD, List.getElem?_drop, List.getD_eq_getElem?_getD]
      congr 3
      omega
theorem Adv.tell {m : Mc} {k a v i n : Int} (h1 : k ≠ 1) (h3 : k ≠ 3) (h7 : k ≠ 7) : Adv m (m.tell k a v i n) [⟨k, m.num, a, v, i, n⟩] :=
  ⟨rfl, rfl, by simpa using h7, by simp [stepsL, Mc.tell, h1], by simp [valsL, Mc.tell, h3], by simp [valsL, h3]⟩
theorem Adv.top (m : Mc) (g : Fr → Fr) : Adv m (m.top g) [] := ⟨by simp [Mc.top], rfl, by simp, by simp [stepsL, Mc.top], by simp [valsL, Mc.top], by simp [valsL]⟩
theorem Adv.write (m : Mc) (a v i n : Int) : ∃ l, Adv m (m.write a v i n) l := by
  have h := (Adv.top m fun f => { f with vars := setC f.vars v i n }).tr (Adv.tell (m := m.top fun f => { f with vars := setC f.vars v i n }) (k := 2) (a := a) (v := v) (i := i) (n := n) (by decide) (by decide) (by decide))
  exact ⟨_, h⟩
theorem Adv.writes (a : Int) : ∀ (l : List Int) (i : Nat) (m : Mc), ∃ k, Adv m (Mc.writes a l i m) k
  | [], _, m => ⟨_, Adv.rfl_ m⟩
  | n :: l, i, m => by
    obtain ⟨k1, h1⟩ := Adv.write m a i 0 n
    obtain ⟨k2, h2⟩ := Adv.writes a l (i + 1) (m.write a i 0 n)
    exact ⟨_, h1.tr h2⟩
/-- .. and a step is told -/
theorem Adv.step (m : Mc) (fr : List Fr) (a : Int) : Adv m (Mc.tell { m with steps := m.steps + 1, frames := fr } 1 a 0 0 0) [⟨1, Mc.num { m with steps := m.steps + 1, frames := fr }, a, 0, 0, 0⟩] :=
  ⟨rfl, rfl, by simp, by simp [stepsL, Mc.tell], by simp [valsL, Mc.tell], by simp [valsL]⟩
theorem Adv.read (m : Mc) (a : Int) : Adv m (Mc.tell { m with inp := m.inp.tail } 3 a 0 0 (m.inp.headD 0)) [⟨3, m.num, a, 0, 0, m.inp.headD 0⟩] := by
  refine ⟨rfl, rfl, by simp, by simp [stepsL, Mc.tell], by simp [valsL, Mc.tell], fun i x hx => ?_⟩
  have h : [m.inp.headD 0][i]? = some x := hx
  cases i with
  | zero =>
    obtain rfl := Option.some.inj h
    cases m.inp <;> rfl
  | succ i => simp at h
/-- a machine ends, and not for want of fuel -/
def Ends (m m' : Mc) : Prop := ∃ m1 l a how, Adv m m1 l ∧ m' = m1.end_ a how ∧ how ≠ 1
/-- the next task, of a machine that has fuel, or wants none -/
def Moves (m m' : Mc) : Prop := (∃ l, Adv m m' l) ∨ Ends m m'
theorem Moves.from_ {m m1 m' : Mc} {l : List Ev} (h : Adv m m1 l) (g : Moves m1 m') : Moves m m' := by
  rcases g with ⟨k, g⟩ | ⟨m2, k, a, how, g, h1, h2⟩
  · exact Or.inl ⟨_, h.tr g⟩
  · exact Or.inr ⟨m2, _, a, how, h.tr g, h1, h2⟩
theorem Moves.end_ (m : Mc) (a how : Int) (h : how ≠ 1) : Moves m (m.end_ a how) := Or.inr ⟨m, _, a, how, Adv.rfl_ m, rfl, h⟩
theorem Moves.write (m : Mc) (a v i n : Int) : Moves m (m.write a v i n) := Or.inl (Adv.write m a v i n)
theorem Moves.call (ps : List PF) (m : Mc) (x : PC) (f : Fr) (rest : List Fr) : Moves m (Mc.call ps m x f rest) := by
  unfold Mc.call
  split
  · exact Moves.end_ _ _ _ (argsV_how _ _)
  split
  · exact Moves.end_ _ _ _ (by decide)
  refine Moves.from_ (Adv.tell (k := 5) (a := f.at_) (v := x.fn) (i := 0) (n := m.made) (by decide) (by decide) (by decide)) ?_
  refine Moves.from_ (m1 := { m.tell 5 f.at_ x.fn 0 m.made with made := m.made + 1, frames := ⟨m.made, x.fn, -1, zeroV (ps.getD x.fn.toNat noF).sizes, pushT (ps.getD x.fn.toNat noF).cmds (firstC ps x.fn.toNat) ++ [.back]⟩ :: m.frames }) (l := []) ?_ (Or.inl (Adv.writes _ _ _ _))
  exact ⟨by simp [Mc.tell], rfl, by simp, by simp [stepsL, Mc.tell], by simp [valsL, Mc.tell], by simp [valsL]⟩
theorem Moves.back (ps : List PF) (m : Mc) (f : Fr) (rest : List Fr) : Moves m (Mc.back ps m f rest) := by
  unfold Mc.back
  split
  · exact Moves.end_ _ _ _ (by decide)
  rename_i c rest
  split
  · exact Moves.end_ _ _ _ (PE.val_how _ _)
  split
  · rename_i x a ts h
    refine Moves.from_ (Adv.tell (k := 6) (a := c.at_) (v := 0) (i := 0) (n := ((ps.getD f.fn.toNat noF).result.val f.vars).1) (by decide) (by decide) (by decide)) ?_
    refine Moves.from_ (m1 := { m.tell 6 c.at_ 0 0 ((ps.getD f.fn.toNat noF).result.val f.vars).1 with frames := { c with tasks := ts } :: rest }) (l := []) ?_ (Moves.write _ _ _ _ _)
    exact ⟨by simp [Mc.tell], rfl, by simp, by simp [stepsL, Mc.tell], by simp [valsL, Mc.tell], by simp [valsL]⟩
  · exact Or.inl ⟨_, Adv.rfl_ m⟩
theorem Moves.cmd (m : Mc) (x : PC) (a : Int) (f : Fr) : Moves m (Mc.cmd m x a f) := by
  unfold Mc.cmd
  split
  · exact Moves.from_ (Adv.read m a) (Moves.write _ _ _ _ _)
  split
  · exact Moves.end_ _ _ _ (PE.val_how _ _)
  split
  · exact Moves.end_ _ _ _ (PE.val_how _ _)
  split
  · split
    · exact Moves.write _ _ _ _ _
    · exact Moves.end_ _ _ _ (by decide)
  split
  · exact Moves.write _ _ _ _ _
  split
  · exact Or.inl ⟨_, Adv.tell (by decide) (by decide) (by decide)⟩
  split
  · exact Or.inl ⟨_, Adv.top _ _⟩
  split
  · exact Or.inl ⟨_, Adv.top _ _⟩
  · exact Or.inl ⟨_, Adv.rfl_ m⟩
/-- does a machine want fuel, and has none? -/
def Dry (fuel : Int) (m : Mc) : Prop := ∃ f rest x a ts, m.frames = f :: rest ∧ f.tasks = .cmd x a :: ts ∧ m.steps = fuel
theorem Mc.dry {ps : List PF} {fuel : Int} {m : Mc} (h : Dry fuel m) : ∃ a, m.do_ ps fuel = m.end_ a 1 := by
  obtain ⟨f, rest, x, a, ts, h1, h2, h3⟩ := h
  exact ⟨a, by rw [Mc.do_cmd h1 h2, if_pos h3]⟩
theorem Moves.do_ (ps : List PF) {fuel : Int} {m : Mc} (h : ¬ Dry fuel m) : Moves m (m.do_ ps fuel) := by
  cases hf : m.frames with
  | nil => unfold Mc.do_; rw [hf]; exact Or.inl ⟨_, Adv.rfl_ m⟩
  | cons f rest =>
    cases ht : f.tasks with
    | nil =>
      have : m.do_ ps fuel = m := by unfold Mc.do_; rw [hf]; dsimp only; rw [ht]
      rw [this]
      exact Or.inl ⟨_, Adv.rfl_ m⟩
    | cons t ts =>
      cases t with
      | back => rw [Mc.do_back hf ht]; exact Moves.back _ _ _ _
      | cmd x a =>
        rw [Mc.do_cmd hf ht, if_neg fun h3 => h ⟨f, rest, x, a, ts, hf, ht, h3⟩]
        split
        · exact Moves.from_ (Adv.step m _ a) (Moves.call _ _ _ _ _)
        · exact Moves.from_ (Adv.step m _ a) (Moves.cmd _ _ _ _)
/-- fuel that there is, or is not wanted, tells nothing -/
theorem Mc.do_more {ps : List PF} {F G : Int} {m : Mc} (h : ¬ Dry F m) (g : ¬ Dry G m) : m.do_ ps F = m.do_ ps G := by
  cases hf : m.frames with
  | nil => unfold Mc.do_; rw [hf]
  | cons f rest =>
    cases ht : f.tasks with
    | nil => unfold Mc.do_; rw [hf]; dsimp only; rw [ht]
    | cons t ts =>
      cases t with
      | back => rw [Mc.do_back hf ht, Mc.do_back hf ht]
      | cmd x a => rw [Mc.do_cmd hf ht, Mc.do_cmd hf ht, if_neg fun h3 => h ⟨f, rest, x, a, ts, hf, ht, h3⟩, if_neg fun h3 => g ⟨f, rest, x, a, ts, hf, ht, h3⟩]
/-- will a machine read next? -/
def Reads (m : Mc) : Prop := ∃ f rest x a ts, m.frames = f :: rest ∧ f.tasks = .cmd x a :: ts ∧ x.kind = 4
theorem Mc.to_do {ps : List PF} {fuel : Int} {m : Mc} {i : List Int} (h : ¬ Reads m ∨ Dry fuel m) : (m.to_ i).do_ ps fuel = (m.do_ ps fuel).to_ i := by
  cases hf : m.frames with
  | nil =>
    have hf' : (m.to_ i).frames = [] := hf
    unfold Mc.do_
    rw [hf, hf']
  | cons f rest =>
    have hf' : (m.to_ i).frames = f :: rest := hf
    cases ht : f.tasks with
    | nil => unfold Mc.do_; rw [hf, hf']; dsimp only; rw [ht]
    | cons t ts =>
      cases t with
      | back => rw [Mc.do_back hf ht, Mc.do_back hf' ht]; exact Mc.to_back
      | cmd x a =>
        rw [Mc.do_cmd hf ht, Mc.do_cmd hf' ht]
        by_cases hs : m.steps = fuel
        · rw [if_pos hs, if_pos (show (m.to_ i).steps = fuel from hs)]
          rfl
        · rw [if_neg hs, if_neg (show ¬ (m.to_ i).steps = fuel from hs)]
          have h4 : x.kind ≠ 4 := fun h4 => by
            rcases h with h | ⟨f', rest', x', a', ts', h1, h2, h3⟩
            · exact h ⟨f, rest, x, a, ts, hf, ht, h4⟩
            · exact hs h3
          split
          · exact Mc.to_call (m := Mc.tell { m with steps := m.steps + 1, frames := { f with at_ := a } :: rest } 1 a 0 0 0)
          · exact Mc.to_cmd (m := Mc.tell { m with steps := m.steps + 1, frames := { f with at_ := a, tasks := ts } :: rest } 1 a 0 0 0) h4
/-- a machine that reads -/
theorem Mc.do_rd {ps : List PF} {fuel : Int} {m : Mc} (h : Reads m) (hd : ¬ Dry fuel m) : ∃ (e : Ev) (num a v : Int) (m1 : Mc), e.kind = 1 ∧ ∀ i, (m.to_ i).do_ ps fuel = Mc.to_ { m1.write a v 0 (i.headD 0) with out := m.out ++ [e, ⟨3, num, a, 0, 0, i.headD 0⟩, ⟨2, num, a, v, 0, i.headD 0⟩] } i.tail := by
  obtain ⟨f, rest, x, a, ts, hf, ht, h4⟩ := h
  have hs : ¬ m.steps = fuel := fun h => hd ⟨f, rest, x, a, ts, hf, ht, h⟩
  refine ⟨⟨1, f.num, a, 0, 0, 0⟩, f.num, a, x.var, { m with steps := m.steps + 1, frames := { f with at_ := a, tasks := ts } :: rest }, rfl, fun i => ?_⟩
  rw [Mc.do_cmd (m := m.to_ i) hf ht, if_neg (show ¬ (m.to_ i).steps = fuel from hs), if_neg (by omega)]
  unfold Mc.cmd
  rw [if_pos h4]
  unfold Mc.to_ Mc.write Mc.tell Mc.top Mc.num
  simp
end Go.Proofs.Ytgkpplbomciehaa
