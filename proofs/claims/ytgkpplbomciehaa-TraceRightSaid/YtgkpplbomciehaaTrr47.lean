/- Runs of a program, step by step: what is told, what is read. Two runs of a program, by other numbers that come in and other fuel. Each lemma states its own conditions. -/
import Derived.Test.YtgkpplbomciehaaTrr03
namespace Go.Proofs.Ytgkpplbomciehaa
open Go.RowKit
/-- so many steps events have; the values that were read -/
def stepsL (l : List Ev) : Nat := l.countP fun e => e.kind == 1
def valsL (l : List Ev) : List Int := (l.filter fun e => e.kind == 3).map Ev.value
theorem stepsL_app (a b : List Ev) : stepsL (a ++ b) = stepsL a + stepsL b := List.countP_append ..
theorem valsL_app (a b : List Ev) : valsL (a ++ b) = valsL a ++ valsL b := by unfold valsL; rw [List.filter_append, List.map_append]
/-- other numbers that come in -/
def Mc.to_ (m : Mc) (i : List Int) : Mc := { m with inp := i }
section
variable {ps : List PF} {m : Mc} {i : List Int}
theorem Mc.to_writes (a : Int) : ∀ (l : List Int) (k : Nat) (m : Mc), Mc.writes a l k (m.to_ i) = (Mc.writes a l k m).to_ i
  | [], _, _ => rfl
  | n :: l, k, m => by
    rw [Mc.writes, Mc.writes, ← Mc.to_writes a l (k + 1)]
    rfl
theorem Mc.to_call {x : PC} {f : Fr} {rest : List Fr} : Mc.call ps (m.to_ i) x f rest = (Mc.call ps m x f rest).to_ i := by
  unfold Mc.call
  split
  · rfl
  split
  · rfl
  exact Mc.to_writes f.at_ (argsV f.vars x.args).1 0 { m.tell 5 f.at_ x.fn 0 m.made with made := m.made + 1, frames := ⟨m.made, x.fn, -1, zeroV (ps.getD x.fn.toNat noF).sizes, pushT (ps.getD x.fn.toNat noF).cmds (firstC ps x.fn.toNat) ++ [.back]⟩ :: m.frames }
theorem Mc.to_back {f : Fr} {rest : List Fr} : Mc.back ps (m.to_ i) f rest = (Mc.back ps m f rest).to_ i := by
  cases rest with
  | nil => rfl
  | cons c rest =>
    unfold Mc.back
    dsimp only
    split
    · rfl
    split
    · rfl
    · rfl
theorem Mc.to_cmd {x : PC} {a : Int} {f : Fr} (h : x.kind ≠ 4) : Mc.cmd (m.to_ i) x a f = (Mc.cmd m x a f).to_ i := by
  unfold Mc.cmd
  rw [if_neg h, if_neg h]
  repeat' split
  all_goals rfl
end
/-- how expressions end: never for want of fuel -/
theorem opV_how (k a b : Int) : (opV k a b).2 ≠ 1 := by
  unfold opV
  repeat' split
  all_goals simp
theorem PE.val_how (vs : List (List Int)) : ∀ e : PE, (e.val vs).2 ≠ 1 :=
  PE.ind fun k n args ih => by
    rw [PE.val]
    split
    · simp
    split
    · simp
    rw [valP_map]
    cases args with
    | nil => simp [valOf]
    | cons a t =>
      have h1 := ih a (by simp)
      rw [List.map_cons, valOf_cons]
      split
      · exact h1
      split
      · split <;> simp
      · cases t with
        | nil => simp
        | cons b t =>
          have h2 := ih b (by simp)
          rw [List.map_cons]
          dsimp only
          split
          · exact h2
          · exact opV_how _ _ _
theorem argsV_how (vs : List (List Int)) : ∀ l : List PE, (argsV vs l).2 ≠ 1
  | [] => by simp [argsV]
  | x :: xs => by
    rw [argsV]
    split
    · exact PE.val_how vs x
    · exact argsV_how vs xs
/-- a machine goes on: it tells events, none of which is an end; it reads what comes in -/
structure Adv (m m' : Mc) (l : List Ev) : Prop where
  out : m'.out = m.out ++ l
  on : m'.over = m.over
  k : ∀ e ∈ l, e.kind ≠ 7
  st : m'.steps = m.steps + stepsL l
  inp : m'.inp = m.inp.drop (valsL l).length
  fed : ∀ i x, (valsL l)[i]? = some x → x = m.inp.getD i 0
theorem Adv.rfl_ (m : Mc) : Adv m m [] := ⟨by simp, rfl, by simp, by simp [stepsL], by simp [valsL], by simp [valsL]⟩
theorem Adv.tr {a b c : Mc} {l k : List Ev} (h : Adv a b l) (g : Adv b c k) : Adv a c (l ++ k) := by
  refine ⟨by rw [g.out, h.out, List.append_assoc], g.on.trans h.on, fun e he => ?_, by rw [g.st, h.st, stepsL_app]; omega, by rw [g.inp, h.inp, valsL_app, List.length_append, List.drop_drop], fun i x hx => ?_⟩
  · rcases List.mem_append.1 he with h1 | h1
    · exact h.k e h1
    · exact g.k e h1
  · rw [valsL_app] at hx
    rcases Nat.lt_or_ge i (valsL l).length with hi | hi
    · rw [List.getElem?_append_left hi] at hx
      exact h.fed i x hx
    · rw [List.getElem?_append_right hi] at hx
      rw [g.fed _ x hx, h.inp, List.getD_eq_getElem?_getD, List.getElem?_drop, List.getD_eq_getElem?_getD]
      congr 3
      omega
theorem Adv.tell {m : Mc} {k a v i n : Int} (h1 : k ≠ 1) (h3 : k ≠ 3) (h7 : k ≠ 7) : Adv m (m.tell k a v i n) [⟨k, m.num, a, v, i, n⟩] :=
  ⟨rfl, rfl, by simpa using h7, by simp [stepsL, Mc.tell, h1], by simp [valsL, Mc.tell, h3], by simp [valsL, h3]⟩
theorem Adv.top (m : Mc) (g : Fr → Fr) : Adv m (m.top g) [] := ⟨by simp [Mc.top], rfl, by simp, by simp [stepsL, Mc.top], by simp [valsL, Mc.top], by simp [valsL]⟩
theorem Adv.write (m : Mc) (a v i n : Int) : ∃ l, Adv m (m.write a v i n) l := by
  have h := (Adv.top m fun f => { f with vars := setC f.vars v i n }).tr (Adv.tell (m := m.top fun f => { f with vars := setC f.vars v i n }) (k := 2) (a := a) (v := v) (i := i) (n := n) (by decide) (by decide) (by decide))
  exact ⟨_, h⟩
theorem Adv.writes (a : Int) : ∀ (l : List Int) (i : Nat) (m : Mc), ∃ k, Adv m (Mc.writes a l i m) k
  | [], _, m => ⟨_, Adv.rfl_ m⟩
  | n :: l, i, m => by
    obtain ⟨k1, h1⟩ := Adv.write m a i 0 n
    obtain ⟨k2, h2⟩ := Adv.writes a l (i + 1) (m.write a i 0 n)
    exact ⟨_, h1.tr h2⟩
/-- .. and a step is told -/
theorem Adv.step (m : Mc) (fr : List Fr) (a : Int) : Adv m (Mc.tell { m with steps := m.steps + 1, frames := fr } 1 a 0 0 0) [⟨1, Mc.num { m with steps := m.steps + 1, frames := fr }, a, 0, 0, 0⟩] :=
  ⟨rfl, rfl, by simp, by simp [stepsL, Mc.tell], by simp [valsL, Mc.tell], by simp [valsL]⟩
theorem Adv.read (m : Mc) (a : Int) : Adv m (Mc.tell { m with inp := m.inp.tail } 3 a 0 0 (m.inp.headD 0)) [⟨3, m.num, a, 0, 0, m.inp.headD 0⟩] := by
  refine ⟨rfl, rfl, by simp, by simp [stepsL, Mc.tell], by simp [valsL, Mc.tell], fun i x hx => ?_⟩
  have h : [m.inp.headD 0][i]? = some x := hx
  cases i with
  | zero =>
    obtain rfl := Option.some.inj h
    cases m.inp <;> rfl
  | succ i => simp at h
/-- a machine ends, and not for want of fuel -/
def Ends (m m' : Mc) : Prop := ∃ m1 l a how, Adv m m1 l ∧ m' = m1.end_ a how ∧ how ≠ 1
/-- the next task, of a machine that has fuel, or wants none -/
def Moves (m m' : Mc) : Prop := (∃ l, Adv m m' l) ∨ Ends m m'
theorem Moves.from_ {m m1 m' : Mc} {l : List Ev} (h : Adv m m1 l) (g : Moves m1 m') : Moves m m' := by
  rcases g with ⟨k, g⟩ | ⟨m2, k, a, how, g, h1, h2⟩
  · exact Or.inl ⟨_, h.tr g⟩
  · exact Or.inr ⟨m2, _, a, how, h.tr g, h1, h2⟩
theorem Moves.end_ (m : Mc) (a how : Int) (h : how ≠ 1) : Moves m (m.end_ a how) := Or.inr ⟨m, _, a, how, Adv.rfl_ m, rfl, h⟩
theorem Moves.write (m : Mc) (a v i n : Int) : Moves m (m.write a v i n) := Or.inl (Adv.write m a v i n)
theorem Moves.call (ps : List PF) (m : Mc) (x : PC) (f : Fr) (rest : List Fr) : Moves m (Mc.call ps m x f rest) := by
  unfold Mc.call
  split
  · exact Moves.end_ _ _ _ (argsV_how _ _)
  split
  · exact Moves.end_ _ _ _ (by decide)
  refine Moves.from_ (Adv.tell (k := 5) (a := f.at_) (v := x.fn) (i := 0) (n := m.made) (by decide) (by decide) (by decide)) ?_
  refine Moves.from_ (m1 := { m.tell 5 f.at_ x.fn 0 m.made with made := m.made + 1, frames := ⟨m.made, x.fn, -1, zeroV (ps.getD x.fn.toNat noF).sizes, pushT (ps.getD x.fn.toNat noF).cmds (firstC ps x.fn.toNat) ++ [.back]⟩ :: m.frames }) (l := []) ?_ (Or.inl (Adv.writes _ _ _ _))
  exact ⟨by simp [Mc.tell], rfl, by simp, by simp [stepsL, Mc.tell], by simp [valsL, Mc.tell], by simp [valsL]⟩
theorem Moves.back (ps : List PF) (m : Mc) (f : Fr) (rest : List Fr) : Moves m (Mc.back ps m f rest) := by
  unfold Mc.back
  split
  · exact Moves.end_ _ _ _ (by decide)
  rename_i c rest
  split
  · exact Moves.end_ _ _ _ (PE.val_how _ _)
  split
  · rename_i x a ts h
    refine Moves.from_ (Adv.tell (k := 6) (a := c.at_) (v := 0) (i := 0) (n := ((ps.getD f.fn.toNat noF).result.val f.vars).1) (by decide) (by decide) (by decide)) ?_
    refine Moves.from_ (m1 := { m.tell 6 c.at_ 0 0 ((ps.getD f.fn.toNat noF).result.val f.vars).1 with frames := { c with tasks := ts } :: rest }) (l := []) ?_ (Moves.write _ _ _ _ _)
    exact ⟨by simp [Mc.tell], rfl, by simp, by simp [stepsL, Mc.tell], by simp [valsL, Mc.tell], by simp [valsL]⟩
  · exact Or.inl ⟨_, Adv.rfl_ m⟩
theorem Moves.cmd (m : Mc) (x : PC) (a : Int) (f : Fr) : Moves m (Mc.cmd m x a f) := by
  unfold Mc.cmd
  split
  · exact Moves.from_ (Adv.read m a) (Moves.write _ _ _ _ _)
  split
  · exact Moves.end_ _ _ _ (PE.val_how _ _)
  split
  · exact Moves.end_ _ _ _ (PE.val_how _ _)
  split
  · split
    · exact Moves.write _ _ _ _ _
    · exact Moves.end_ _ _ _ (by decide)
  split
  · exact Moves.write _ _ _ _ _
  split
  · exact Or.inl ⟨_, Adv.tell (by decide) (by decide) (by decide)⟩
  split
  · exact Or.inl ⟨_, Adv.top _ _⟩
  split
  · exact Or.inl ⟨_, Adv.top _ _⟩
  · exact Or.inl ⟨_, Adv.rfl_ m⟩
/-- does a machine want fuel, and has none? -/
def Dry (fuel : Int) (m : Mc) : Prop := ∃ f rest x a ts, m.frames = f :: rest ∧ f.tasks = .cmd x a :: ts ∧ m.steps = fuel
theorem Mc.dry {ps : List PF} {fuel : Int} {m : Mc} (h : Dry fuel m) : ∃ a, m.do_ ps fuel = m.end_ a 1 := by
  obtain ⟨f, rest, x, a, ts, h1, h2, h3⟩ := h
  exact ⟨a, by rw [Mc.do_cmd h1 h2, if_pos h3]⟩
theorem Moves.do_ (ps : List PF) {fuel : Int} {m : Mc} (h : ¬ Dry fuel m) : Moves m (m.do_ ps fuel) := by
  cases hf : m.frames with
  | nil => unfold Mc.do_; rw [hf]; exact Or.inl ⟨_, Adv.rfl_ m⟩
  | cons f rest =>
    cases ht : f.tasks with
    | nil =>
      have : m.do_ ps fuel = m := by unfold Mc.do_; rw [hf]; dsimp only; rw [ht]
      rw [this]
      exact Or.inl ⟨_, Adv.rfl_ m⟩
    | cons t ts =>
      cases t with
      | back => rw [Mc.do_back hf ht]; exact Moves.back _ _ _ _
      | cmd x a =>
        rw [Mc.do_cmd hf ht, if_neg fun h3 => h ⟨f, rest, x, a, ts, hf, ht, h3⟩]
        split
        · exact Moves.from_ (Adv.step m _ a) (Moves.call _ _ _ _ _)
        · exact Moves.from_ (Adv.step m _ a) (Moves.cmd _ _ _ _)
/-- fuel that there is, or is not wanted, tells nothing -/
theorem Mc.do_more {ps : List PF} {F G : Int} {m : Mc} (h : ¬ Dry F m) (g : ¬ Dry G m) : m.do_ ps F = m.do_ ps G := by
  cases hf : m.frames with
  | nil => unfold Mc.do_; rw [hf]
  | cons f rest =>
    cases ht : f.tasks with
    | nil => unfold Mc.do_; rw [hf]; dsimp only; rw [ht]
    | cons t ts =>
      cases t with
      | back => rw [Mc.do_back hf ht, Mc.do_back hf ht]
      | cmd x a => rw [Mc.do_cmd hf ht, Mc.do_cmd hf ht, if_neg fun h3 => h ⟨f, rest, x, a, ts, hf, ht, h3⟩, if_neg fun h3 => g ⟨f, rest, x, a, ts, hf, ht, h3⟩]
/-- will a machine read next? -/
def Reads (m : Mc) : Prop := ∃ f rest x a ts, m.frames = f :: rest ∧ f.tasks = .cmd x a :: ts ∧ x.kind = 4
theorem Mc.to_do {ps : List PF} {fuel : Int} {m : Mc} {i : List Int} (h : ¬ Reads m ∨ Dry fuel m) : (m.to_ i).do_ ps fuel = (m.do_ ps fuel).to_ i := by
  cases hf : m.frames with
  | nil =>
    have hf' : (m.to_ i).frames = [] := hf
    unfold Mc.do_
    rw [hf, hf']
  | cons f rest =>
    have hf' : (m.to_ i).frames = f :: rest := hf
    cases ht : f.tasks with
    | nil => unfold Mc.do_; rw [hf, hf']; dsimp only; rw [ht]
    | cons t ts =>
      cases t with
      | back => rw [Mc.do_back hf ht, Mc.do_back hf' ht]; exact Mc.to_back
      | cmd x a =>
        rw [Mc.do_cmd hf ht, Mc.do_cmd hf' ht]
        by_cases hs : m.steps = fuel
        · rw [if_pos hs, if_pos (show (m.to_ i).steps = fuel from hs)]
          rfl
        · rw [if_neg hs, if_neg (show ¬ (m.to_ i).steps = fuel from hs)]
          have h4 : x.kind ≠ 4 := fun h4 => by
            rcases h with h | ⟨f', rest', x', a', ts', h1, h2, h3⟩
            · exact h ⟨f, rest, x, a, ts, hf, ht, h4⟩
            · exact hs h3
          split
          · exact Mc.to_call (m := Mc.tell { m with steps := m.steps + 1, frames := { f with at_ := a } :: rest } 1 a 0 0 0)
          · exact Mc.to_cmd (m := Mc.tell { m with steps := m.steps + 1, frames := { f with at_ := a, tasks := ts } :: rest } 1 a 0 0 0) h4
/-- a machine that reads -/
theorem Mc.do_rd {ps : List PF} {fuel : Int} {m : Mc} (h : Reads m) (hd : ¬ Dry fuel m) : ∃ (e : Ev) (num a v : Int) (m1 : Mc), e.kind = 1 ∧ ∀ i, (m.to_ i).do_ ps fuel = Mc.to_ { m1.write a v 0 (i.headD 0) with out := m.out ++ [e, ⟨3, num, a, 0, 0, i.headD 0⟩, ⟨2, num, a, v, 0, i.headD 0⟩] } i.tail := by
  obtain ⟨f, rest, x, a, ts, hf, ht, h4⟩ := h
  have hs : ¬ m.steps = fuel := fun h => hd ⟨f, rest, x, a, ts, hf, ht, h⟩
  refine ⟨⟨1, f.num, a, 0, 0, 0⟩, f.num, a, x.var, { m with steps := m.steps + 1, frames := { f with at_ := a, tasks := ts } :: rest }, rfl, fun i => ?_⟩
  rw [Mc.do_cmd (m := m.to_ i) hf ht, if_neg (show ¬ (m.to_ i).steps = fuel from hs), if_neg (by omega)]
  unfold Mc.cmd
  rw [if_pos h4]
  unfold Mc.to_ Mc.write Mc.tell Mc.top Mc.num
  simp
theorem Mc.steps_writes (a : Int) : ∀ (l : List Int) (k : Nat) (m : Mc), (Mc.writes a l k m).steps = m.steps
  | [], _, _ => rfl
  | n :: l, k, m => by rw [Mc.writes, Mc.steps_writes a l (k + 1)]; rfl
theorem Mc.steps_call (ps : List PF) (m : Mc) (x : PC) (f : Fr) (rest : List Fr) : (Mc.call ps m x f rest).steps = m.steps := by
  unfold Mc.call
  split
  · rfl
  split
  · rfl
  rw [Mc.steps_writes]
  rfl
theorem Mc.steps_back (ps : List PF) (m : Mc) (f : Fr) (rest : List Fr) : (Mc.back ps m f rest).steps = m.steps := by
  unfold Mc.back
  repeat' split
  all_goals rfl
theorem Mc.steps_cmd (m : Mc) (x : PC) (a : Int) (f : Fr) : (Mc.cmd m x a f).steps = m.steps := by
  unfold Mc.cmd
  repeat' split
  all_goals rfl
theorem Mc.steps_le {ps : List PF} {fuel : Int} {m : Mc} (h : m.steps ≤ fuel) : (m.do_ ps fuel).steps ≤ fuel := by
  cases hf : m.frames with
  | nil => unfold Mc.do_; rw [hf]; exact h
  | cons f rest =>
    cases ht : f.tasks with
    | nil => unfold Mc.do_; rw [hf]; dsimp only; rw [ht]; exact h
    | cons t ts =>
      cases t with
      | back => rw [Mc.do_back hf ht, Mc.steps_back]; exact h
      | cmd x a =>
        rw [Mc.do_cmd hf ht]
        split
        · exact h
        split
        · rw [Mc.steps_call]
          show m.steps + 1 ≤ fuel
          omega
        · rw [Mc.steps_cmd]
          show m.steps + 1 ≤ fuel
          omega
/-- what holds of a run at each time -/
structure Told (inp0 : List Int) (fuel : Int) (m : Mc) : Prop where
  st : m.steps = stepsL m.out
  inp : m.inp = inp0.drop (valsL m.out).length
  fed : ∀ i x, (valsL m.out)[i]? = some x → x = inp0.getD i 0
  le : m.steps ≤ fuel
  ends : (m.over = false ∧ ∀ e ∈ m.out, e.kind ≠ 7) ∨ (m.over = true ∧ ∃ l e, m.out = l ++ [e] ∧ e.kind = 7 ∧ (∀ x ∈ l, x.kind ≠ 7) ∧ (e.value = 1 → m.steps = fuel))
theorem Told.start (ps : List PF) (inp : List Int) {fuel : Int} (h : 0 ≤ fuel) : Told inp fuel (startM ps inp) :=
  ⟨rfl, rfl, fun i x hx => by simp [startM, valsL] at hx, h, Or.inl ⟨rfl, by simp [startM]⟩⟩
theorem Told.adv {inp0 : List Int} {fuel : Int} {m m' : Mc} {l : List Ev} (h : Told inp0 fuel m) (g : Adv m m' l) : m'.steps = stepsL m'.out ∧ m'.inp = inp0.drop (valsL m'.out).length ∧ (∀ i x, (valsL m'.out)[i]? = some x → x = inp0.getD i 0) := by
  refine ⟨by rw [g.st, g.out, stepsL_app, h.st]; omega, by rw [g.inp, h.inp, g.out, valsL_app, List.length_append, List.drop_drop], fun i x hx => ?_⟩
  rw [g.out, valsL_app] at hx
  rcases Nat.lt_or_ge i (valsL m.out).length with hi | hi
  · rw [List.getElem?_append_left hi] at hx
    exact h.fed i x hx
  · rw [List.getElem?_append_right hi] at hx
    rw [g.fed _ x hx, h.inp, List.getD_eq_getElem?_getD, List.getElem?_drop, List.getD_eq_getElem?_getD]
    congr 3
    omega
theorem Told.go {ps : List PF} {inp0 : List Int} {fuel : Int} {m : Mc} (h : Told inp0 fuel m) : Told inp0 fuel (m.go ps fuel) ∧ ∃ l, (m.go ps fuel).out = m.out ++ l := by
  unfold Mc.go
  cases ho : m.over with
  | true => rw [if_pos rfl]; exact ⟨h, [], by simp⟩
  | false =>
    rw [if_neg (by decide)]
    have hle := Mc.steps_le (ps := ps) h.le
    have hk : ∀ e ∈ m.out, e.kind ≠ 7 := by
      rcases h.ends with h1 | ⟨h1, -⟩
      · exact h1.2
      · rw [ho] at h1; cases h1
    by_cases hd : Dry fuel m
    · obtain ⟨a, ha⟩ := Mc.dry (ps := ps) hd
      obtain ⟨-, -, -, -, -, -, -, hs⟩ := hd
      rw [ha]
      refine ⟨⟨?_, ?_, fun i x hx => ?_, h.le, Or.inr ⟨rfl, m.out, _, rfl, rfl, hk, fun _ => hs⟩⟩, _, rfl⟩
      · show m.steps = stepsL (m.out ++ [_])
        rw [stepsL_app, h.st]
        simp [stepsL]
      · show m.inp = inp0.drop (valsL (m.out ++ [_])).length
        rw [valsL_app, h.inp]
        simp [valsL]
      · have hx' : (valsL (m.out ++ [⟨7, m.num, a, 0, 0, 1⟩]))[i]? = some x := hx
        rw [valsL_app, show valsL [⟨7, m.num, a, 0, 0, 1⟩] = [] from rfl, List.append_nil] at hx'
        exact h.fed i x hx'
    · rcases Moves.do_ ps hd with ⟨l, g⟩ | ⟨m1, l, a, how, g, hm, hh⟩
      · obtain ⟨h1, h2, h3⟩ := h.adv g
        refine ⟨⟨h1, h2, h3, hle, Or.inl ⟨g.on.trans ho, fun e he => ?_⟩⟩, l, g.out⟩
        rw [g.out] at he
        rcases List.mem_append.1 he with he | he
        · exact hk e he
        · exact g.k e he
      · obtain ⟨h1, h2, h3⟩ := h.adv g
        rw [hm] at hle ⊢
        have e1 : stepsL (m1.out ++ [⟨7, m1.num, a, 0, 0, how⟩]) = stepsL m1.out := by rw [stepsL_app]; simp [stepsL]
        have e2 : valsL (m1.out ++ [⟨7, m1.num, a, 0, 0, how⟩]) = valsL m1.out := by rw [valsL_app]; simp [valsL]
        refine ⟨⟨?_, ?_, fun i x hx => ?_, hle, Or.inr ⟨rfl, m1.out, _, rfl, rfl, fun e he => ?_, fun hv => absurd hv hh⟩⟩, l ++ [⟨7, m1.num, a, 0, 0, how⟩], ?_⟩
        · show m1.steps = stepsL (m1.out ++ [_])
          rw [e1, h1]
        · show m1.inp = inp0.drop (valsL (m1.out ++ [_])).length
          rw [e2, h2]
        · have hx' : (valsL (m1.out ++ [⟨7, m1.num, a, 0, 0, how⟩]))[i]? = some x := hx
          rw [e2] at hx'
          exact h3 i x hx'
        · rw [g.out] at he
          rcases List.mem_append.1 he with he | he
          · exact hk e he
          · exact g.k e he
        · show m1.out ++ [_] = _
          rw [g.out, List.append_assoc]
theorem Told.iter {ps : List PF} {inp0 : List Int} {fuel : Int} : ∀ (n : Nat) {m : Mc}, Told inp0 fuel m → Told inp0 fuel (m.iter ps fuel n) ∧ ∃ l, (m.iter ps fuel n).out = m.out ++ l
  | 0, m, h => ⟨h, [], by simp [Mc.iter]⟩
  | n + 1, m, h => by
    obtain ⟨h1, l1, e1⟩ := h.go (ps := ps)
    obtain ⟨h2, l2, e2⟩ := Told.iter n h1
    exact ⟨h2, l1 ++ l2, by rw [Mc.iter, e2, e1, List.append_assoc]⟩
section
variable {ps : List PF} {inp : List Int} {fuel : Int} {out : List Ev}
theorem Ran.told (h : Ran ps inp fuel out) (hf : 0 ≤ fuel) : ∃ m, m.out = out ∧ m.over = true ∧ Told inp fuel m := by
  obtain ⟨m, ⟨n, hn⟩, h1, h2⟩ := h
  exact ⟨m, h2, h1, by rw [← hn]; exact (Told.iter n (Told.start ps inp hf)).1⟩
theorem Ran.last (h : Ran ps inp fuel out) (hf : 0 ≤ fuel) : ∃ l e, out = l ++ [e] ∧ e.kind = 7 ∧ (∀ x ∈ l, x.kind ≠ 7) ∧ (e.value = 1 → (stepsL out : Int) = fuel) := by
  obtain ⟨m, rfl, ho, ht⟩ := h.told hf
  rcases ht.ends with ⟨h1, -⟩ | ⟨-, l, e, h1, h2, h3, h4⟩
  · rw [ho] at h1; cases h1
  · exact ⟨l, e, h1, h2, h3, fun h => by rw [← ht.st]; exact h4 h⟩
theorem Ran.steps (h : Ran ps inp fuel out) (hf : 0 ≤ fuel) : (stepsL out : Int) ≤ fuel := by
  obtain ⟨m, rfl, -, ht⟩ := h.told hf
  rw [← ht.st]
  exact ht.le
theorem Ran.fed (h : Ran ps inp fuel out) (hf : 0 ≤ fuel) : ∀ i x, (valsL out)[i]? = some x → x = inp.getD i 0 := by
  obtain ⟨m, rfl, -, ht⟩ := h.told hf
  exact ht.fed
/-- each run ends -/
theorem Good.ends (hp : Prog ps) : ∀ (k : Nat) (m : Mc) (f : Fr) (rest : List Fr), Good ps fuel m f rest → 3 * fuel + 1 - (3 * m.steps - rest.length) ≤ k → ∃ m', Reach ps fuel m m' ∧ m'.over = true ∧ (m'.out.length : Int) ≤ 7 * fuel + 7
  | 0, m, f, rest, h, hk => by
    have := h.s1
    omega
  | k + 1, m, f, rest, h, hk => by
    obtain ⟨h1, h2⟩ := h.step hp
    have hl := h.len
    have hs := h.s1
    have hr := Reach.one (ps := ps) (fuel := fuel) h.on rfl
    rcases h2 with h2 | ⟨f', rest', h2, h3⟩
    · exact ⟨_, hr, h2, by omega⟩
    · obtain ⟨m', h4, h5, h6⟩ := Good.ends hp k _ _ _ h2 (by omega)
      exact ⟨m', hr.tr h4, h5, h6⟩
theorem Ran.ex (hp : Prog ps) (hi : ∀ n ∈ inp, Num n) (hf : 0 ≤ fuel) : ∃ out, Ran ps inp fuel out ∧ (out.length : Int) ≤ 7 * fuel + 7 := by
  obtain ⟨f, hg⟩ := Good.start hp hi hf
  obtain ⟨m, h1, h2, h3⟩ := Good.ends hp (3 * fuel + 1 - (3 * (startM ps inp).steps - 0)).toNat _ _ _ hg (by simp only [List.length_nil]; omega)
  exact ⟨m.out, ⟨m, h1, h2, rfl⟩, h3⟩
theorem Ran.len (h : Ran ps inp fuel out) (hp : Prog ps) (hi : ∀ n ∈ inp, Num n) (hf : 0 ≤ fuel) : (out.length : Int) ≤ 7 * fuel + 7 := by
  obtain ⟨out', h1, h2⟩ := Ran.ex hp hi hf
  rw [Ran.same h h1]
  exact h2
end
theorem headD_drop (l : List Int) (n : Nat) : (l.drop n).headD 0 = l.getD n 0 := by
  rw [List.getD_eq_getElem?_getD, List.headD_eq_head?_getD, List.head?_drop]
theorem take_pre {α : Type} {N : Nat} {a : List α} (h : N ≤ a.length) (b : List α) : (a ++ b).take N = a.take N := List.take_append_of_le_length h
/-- two machines are alike but for what comes in; or they told so many events alike -/
def Sim (N : Nat) (a b : Mc) : Prop := (∃ i, b = a.to_ i) ∨ (N ≤ a.out.length ∧ N ≤ b.out.length ∧ a.out.take N = b.out.take N)
theorem Sim.far {ps : List PF} {N : Nat} {a b : Mc} {inpA inpB : List Int} {F G : Int} (ha : Told inpA F a) (hb : Told inpB G b) (h1 : N ≤ a.out.length) (h2 : N ≤ b.out.length) (h3 : a.out.take N = b.out.take N) : Sim N (a.go ps F) (b.go ps G) := by
  obtain ⟨-, la, ea⟩ := ha.go (ps := ps)
  obtain ⟨-, lb, eb⟩ := hb.go (ps := ps)
  right
  rw [ea, eb, take_pre h1, take_pre h2]
  exact ⟨by rw [List.length_append]; omega, by rw [List.length_append]; omega, h3⟩
theorem Sim.go {ps : List PF} {N : Nat} {a b : Mc} {inpA inpB : List Int} {F G : Int} {outA : List Ev} (ha : Told inpA F a) (hb : Told inpB G b) (hN : N ≤ outA.length) (hF : F = G ∨ (F ≤ G ∧ (N < outA.length ∨ ∀ l e, outA = l ++ [e] → e.value ≠ 1)))
    (hin : ∀ i, i < (valsL (outA.take N)).length → inpA.getD i 0 = inpB.getD i 0) (hout : ∃ l, outA = (a.go ps F).out ++ l) (hov : a.over = true → outA = a.out) (hov2 : (a.go ps F).over = true → outA = (a.go ps F).out) (h : Sim N a b) : Sim N (a.go ps F) (b.go ps G) := by
  rcases h with ⟨i, rfl⟩ | ⟨h1, h2, h3⟩
  rotate_left
  · exact Sim.far ha hb h1 h2 h3
  by_cases hlt : N ≤ a.out.length
  · exact Sim.far ha hb hlt hlt rfl
  have hon : a.over = false := by
    cases ho : a.over with
    | false => rfl
    | true =>
      rw [hov ho] at hN
      exact absurd hN hlt
  have eA : a.go ps F = a.do_ ps F := by unfold Mc.go; rw [hon]; rfl
  have eB : (a.to_ i).go ps G = (a.to_ i).do_ ps G := by unfold Mc.go; rw [show (a.to_ i).over = false from hon]; rfl
  rw [eA] at hout hov2 ⊢
  rw [eB]
  by_cases hd : Dry F a
  · obtain ⟨k, hk⟩ := Mc.dry (ps := ps) hd
    rw [hk] at hov2
    have ho := hov2 rfl
    have hl : outA.length = a.out.length + 1 := by rw [ho]; simp [Mc.end_]
    have hFG : F = G := by
      rcases hF with h | ⟨-, h | h⟩
      · exact h
      · omega
      · exact absurd rfl (h _ _ ho)
    subst hFG
    rw [Mc.to_do (Or.inr hd)]
    exact Or.inl ⟨i, rfl⟩
  have hd2 : ¬ Dry G a := fun hd2 => by
    obtain ⟨f, rest, x, n, ts, h1, h2, h3⟩ := hd2
    have hle := ha.le
    have : F = G := by
      rcases hF with h | ⟨h, -⟩
      · exact h
      · omega
    exact hd ⟨f, rest, x, n, ts, h1, h2, h3.trans this.symm⟩
  by_cases hr : Reads a
  rotate_left
  · rw [Mc.to_do (Or.inl hr), Mc.do_more hd hd2]
    exact Or.inl ⟨i, rfl⟩
  obtain ⟨e, num, at_, v, m1, hek, hdo⟩ := Mc.do_rd (ps := ps) hr hd
  have hA : a.do_ ps F = (a.to_ a.inp).do_ ps F := rfl
  have hB : (a.to_ i).do_ ps G = (a.to_ i).do_ ps F := Mc.do_more (m := a.to_ i) hd2 hd
  rw [hA, hdo] at hout ⊢
  rw [hB, hdo]
  by_cases hN2 : N ≤ a.out.length + 1
  · right
    have hh : ∀ (r w : Ev), (a.out ++ [e, r, w]).take N = (a.out ++ [e]).take N := fun r w => by
      rw [show a.out ++ [e, r, w] = (a.out ++ [e]) ++ [r, w] by simp]
      exact take_pre (by simpa using hN2) _
    refine ⟨?_, ?_, ?_⟩
    · show N ≤ (a.out ++ _).length
      simp; omega
    · show N ≤ (a.out ++ _).length
      simp; omega
    · show (a.out ++ [e, _, _]).take N = (a.out ++ [e, _, _]).take N
      rw [hh, hh]
  · have hv : a.inp.headD 0 = i.headD 0 := by
      rw [ha.inp, headD_drop]
      have hi : i = inpB.drop (valsL a.out).length := hb.inp
      rw [hi, headD_drop]
      refine hin _ ?_
      obtain ⟨l, hl⟩ := hout
      have hl' : outA = a.out ++ [e, ⟨3, num, at_, 0, 0, a.inp.headD 0⟩] ++ (⟨2, num, at_, v, 0, a.inp.headD 0⟩ :: l) := by rw [hl]; simp [Mc.to_]
      obtain ⟨d, hd⟩ : ∃ d, N = (a.out ++ [e, ⟨3, num, at_, 0, 0, a.inp.headD 0⟩]).length + d := ⟨N - (a.out.length + 2), by simp; omega⟩
      rw [hl', hd, List.take_length_add_append, valsL_app, valsL_app, List.length_append, List.length_append]
      have : (valsL [e, ⟨3, num, at_, 0, 0, a.inp.headD 0⟩]).length = 1 := by simp [valsL, hek]
      omega
    rw [hv]
    exact Or.inl ⟨i.tail, rfl⟩
theorem Sim.iter {ps : List PF} {N : Nat} {inpA inpB : List Int} {F G : Int} {outA : List Ev} (hF0 : 0 ≤ F) (hG0 : 0 ≤ G) (hA : Ran ps inpA F outA) (hN : N ≤ outA.length) (hF : F = G ∨ (F ≤ G ∧ (N < outA.length ∨ ∀ l e, outA = l ++ [e] → e.value ≠ 1)))
    (hin : ∀ i, i < (valsL (outA.take N)).length → inpA.getD i 0 = inpB.getD i 0) : ∀ n, Sim N ((startM ps inpA).iter ps F n) ((startM ps inpB).iter ps G n)
  | 0 => Or.inl ⟨inpB, rfl⟩
  | n + 1 => by
    have ih := Sim.iter hF0 hG0 hA hN hF hin n
    have tA := (Told.iter (ps := ps) n (Told.start ps inpA hF0)).1
    have tB := (Told.iter (ps := ps) n (Told.start ps inpB hG0)).1
    have sA : (startM ps inpA).iter ps F (n + 1) = ((startM ps inpA).iter ps F n).go ps F := by rw [Mc.iter_add]; rfl
    have sB : (startM ps inpB).iter ps G (n + 1) = ((startM ps inpB).iter ps G n).go ps G := by rw [Mc.iter_add]; rfl
    obtain ⟨mA, ⟨kA, hk⟩, hoA, rfl⟩ := hA
    have hfin : ∀ k, ((startM ps inpA).iter ps F k).over = true → mA.out = ((startM ps inpA).iter ps F k).out := fun k hk2 => by
      rw [Reach.same ⟨k, rfl⟩ ⟨kA, hk⟩ hk2 hoA]
    rw [sA, sB]
    refine Sim.go tA tB hN hF hin ?_ (hfin n) (by rw [← sA]; exact hfin (n + 1)) ih
    obtain ⟨-, l, hl⟩ := Told.iter (ps := ps) (fuel := F) kA (tA.go (ps := ps)).1
    refine ⟨l, ?_⟩
    rw [← hl, ← sA, ← Mc.iter_add, Nat.add_comm, Mc.iter_add, hk, Mc.iter_over hoA]
/-- TWO RUNS TELL ALIKE, as long as there is fuel and what came in was alike -/
theorem Ran.sim {ps : List PF} {N : Nat} {inpA inpB : List Int} {F G : Int} {outA outB : List Ev} (hF0 : 0 ≤ F) (hG0 : 0 ≤ G) (hA : Ran ps inpA F outA) (hB : Ran ps inpB G outB) (hN : N ≤ outA.length) (hF : F = G ∨ (F ≤ G ∧ (N < outA.length ∨ ∀ l e, outA = l ++ [e] → e.value ≠ 1)))
    (hin : ∀ i, i < (valsL (outA.take N)).length → inpA.getD i 0 = inpB.getD i 0) : N ≤ outB.length ∧ outA.take N = outB.take N := by
  have hs := Sim.iter hF0 hG0 hA hN hF hin
  obtain ⟨mA, ⟨kA, hkA⟩, hoA, rfl⟩ := hA
  obtain ⟨mB, ⟨kB, hkB⟩, hoB, rfl⟩ := hB
  have h := hs (kA + kB)
  rw [Mc.iter_add, hkA, Mc.iter_over hoA, Nat.add_comm, Mc.iter_add, hkB, Mc.iter_over hoB] at h
  rcases h with ⟨i, rfl⟩ | ⟨-, h2, h3⟩
  · exact ⟨hN, rfl⟩
  · exact ⟨h2, h3⟩
end Go.Proofs.Ytgkpplbomciehaa
