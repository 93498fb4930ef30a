/- Two runs of a program, by other numbers that come in and other fuel. How many parts an expression of a program has: both counts walked; none at all. Each lemma states its own conditions. -/
import Derived.Test.YtgkpplbomciehaaSca06
import Derived.Test.YtgkpplbomciehaaSca02
import Derived.Test.YtgkpplbomciehaaSca01
import Derived.Test.YtgkpplbomciehaaChecked
namespace Go.Proofs.Ytgkpplbomciehaa
open Go.RowKit
theorem Mc.steps_writes (a : Int) : ∀ (l : List Int) (k : Nat) (m : Mc), (Mc.writes a l k m).steps = m.steps
  | [], _, _ => rfl
  | n :: l, k, m => by rw [Mc.writes, Mc.steps_writes a l (k + 1)]; rfl
theorem Mc.steps_call (ps : List PF) (m : Mc) (x : PC) (f : Fr) (rest : List Fr) : (Mc.call ps m x f rest).steps = m.steps := by
  unfold Mc.call
  split
  · rfl
  split
  · rfl
  rw [Mc.steps_writes]
  rfl
theorem Mc.steps_back (ps : List PF) (m : Mc) (f : Fr) (rest : List Fr) : (Mc.back ps m f rest).steps = m.steps := by
  unfold Mc.back
  repeat' split
  all_goals rfl
theorem Mc.steps_cmd (m : Mc) (x : PC) (a : Int) (f : Fr) : (Mc.cmd m x a f).steps = m.steps := by
  unfold Mc.cmd
  repeat' split
  all_goals rfl
theorem Mc.steps_le {ps : List PF} {fuel : Int} {m : Mc} (h : m.steps ≤ fuel) : (m.do_ ps fuel).steps ≤ fuel := by
  cases hf : m.frames with
  | nil => unfold Mc.do_; rw [hf]; exact h
  | cons f rest =>
    cases ht : f.tasks with
    | nil => unfold Mc.do_; rw [hf]; dsimp only; rw [ht]; exact h
    | cons t ts =>
      cases t with
      | back => rw [Mc.do_back hf ht, Mc.steps_back]; exact h
      | cmd x a =>
        rw [Mc.do_cmd hf ht]
        split
        · exact h
        split
        · rw [Mc.steps_call]
          show m.steps + 1 ≤ fuel
          omega
        · rw [Mc.steps_cmd]
          show m.steps + 1 ≤ fuel
          omega
/-- what holds of a run at each time -/
structure Told (inp0 : List Int) (fuel : Int) (m : Mc) : Prop where
  st : m.steps = stepsL m.out
  inp : m.inp = inp0.drop (valsL m.out).length
  fed : ∀ i x, (valsL m.out)[i]? = some x → x = inp0.getD i 0
  le : m.steps ≤ fuel
  ends : (m.over = false ∧ ∀ e ∈ m.out, e.kind ≠ 7) ∨ (m.over = true ∧ ∃ l e, m.out = l ++ [e] ∧ e.kind = 7 ∧ (∀ x ∈ l, x.kind ≠ 7) ∧ (e.value = 1 → m.steps = fuel))
theorem Told.start (ps : List PF) (inp : List Int) {fuel : Int} (h : 0 ≤ fuel) : Told inp fuel (startM ps inp) :=
  ⟨rfl, rfl, fun i x hx => by simp [startM, valsL] at hx, h, Or.inl ⟨rfl, by simp [startM]⟩⟩
theorem Told.adv {inp0 : List Int} {fuel : Int} {m m' : Mc} {l : List Ev} (h : Told inp0 fuel m) (g : Adv m m' l) : m'.steps = stepsL m'.out ∧ m'.inp = inp0.drop (valsL m'.out).length ∧ (∀ i x, (valsL m'.out)[i]? = some x → x = inp0.getD i 0) := by
  refine ⟨by rw [g.st, g.out, stepsL_app, h.st]; omega, by rw [g.inp, h.inp, g.out, valsL_app, List.length_append, List.drop_drop], fun i x hx => ?_⟩
  rw [g.out, valsL_app] at hx
  rcases Nat.lt_or_ge i (valsL m.out).length with hi | hi
  · rw [List.getElem?_append_left hi] at hx
    exact h.fed i x hx
  · rw [List.getElem?_append_right hi] at hx
    rw [g.fed _ x hx, h.inp, List.getD_eq_getElem?_getD, List.getElem?_drop, List.getD_eq_getElem?_getD]
    congr 3
    omega
theorem Told.go {ps : List PF} {inp0 : List Int} {fuel : Int} {m : Mc} (h : Told inp0 fuel m) : Told inp0 fuel (m.go ps fuel) ∧ ∃ l, (m.go ps fuel).out = m.out ++ l := by
  unfold Mc.go
  cases ho : m.over with
  | true => rw [if_pos rfl]; exact ⟨h, [], by simp⟩
  | false =>
    rw [if_neg (by decide)]
    have hle := Mc.steps_le (ps := ps) h.le
    have hk : ∀ e ∈ m.out, e.kind ≠ 7 := by
      rcases h.ends with h1 | ⟨h1, -⟩
      · exact h1.2
      · rw [ho] at h1; cases h1
    by_cases hd : Dry fuel m
    · obtain ⟨a, ha⟩ := Mc.dry (ps := ps) hd
      obtain ⟨-, -, -, -, -, -, -, hs⟩ := hd
      rw [ha]
      refine ⟨⟨?_, ?_, fun i x hx => ?_, h.le, Or.inr ⟨rfl, m.out, _, rfl, rfl, hk, fun _ => hs⟩⟩, _, rfl⟩
      · show m.steps = stepsL (m.out ++ [_])
        rw [stepsL_app, h.st]
        simp [stepsL]
      · show m.inp = inp0.drop (valsL (m.out ++ [_])).length
        rw [valsL_app, h.inp]
        simp [valsL]
      · have hx' : (valsL (m.out ++ [⟨7, m.num, a, 0, 0, 1⟩]))[i]? = some x := hx
        rw [valsL_app, show valsL [⟨7, m.num, a, 0, 0, 1⟩] = [] from rfl, List.append_nil] at hx'
        exact h.fed i x hx'
    · rcases Moves.do_ ps hd with ⟨l, g⟩ | ⟨m1, l, a, how, g, hm, hh⟩
      · obtain ⟨h1, h2, h3⟩ := h.adv g
        refine ⟨⟨h1, h2, h3, hle, Or.inl ⟨g.on.trans ho, fun e he => ?_⟩⟩, l, g.out⟩
        rw [g.out] at he
        rcases List.mem_append.1 he with he | he
        · exact hk e he
        · exact g.k e he
      · obtain ⟨h1, h2, h3⟩ := h.adv g
        rw [hm] at hle ⊢
        have e1 : stepsL (m1.out ++ [⟨7, m1.num, a, 0, 0, how⟩]) = stepsL m1.out := by rw [stepsL_app]; simp [stepsL]
        have e2 : valsL (m1.out ++ [⟨7, m1.num, a, 0, 0, how⟩]) = valsL m1.out := by rw [valsL_app]; simp [valsL]
        refine ⟨⟨?_, ?_, fun i x hx => ?_, hle, Or.inr ⟨rfl, m1.out, _, rfl, rfl, fun e he => ?_, fun hv => absurd hv hh⟩⟩, l ++ [⟨7, m1.num, a, 0, 0, how⟩], ?_⟩
        · show m1.steps = stepsL (m1.out ++ [_])
          rw [e1, h1]
        · show m1.inp = inp0.drop (valsL (m1.out ++ [_])).length
          rw [e2, h2]
        · have hx' : (valsL (m1.out ++ [⟨7, m1.num, a, 0, 0, how⟩]))[i]? = some x := hx
          rw [e2] at hx'
          exact h3 i x hx'
        · rw [g.out] at he
          rcases List.mem_append.1 he with he | he
          · exact hk e he
          · exact g.k e he
        · show m1.out ++ [_] = _
          rw [g.out, List.append_assoc]
theorem Told.iter {ps : List PF} {inp0 : List Int} {fuel : Int} : ∀ (n : Nat) {m : Mc}, Told inp0 fuel m → Told inp0 fuel (m.iter ps fuel n) ∧ ∃ l, (m.iter ps fuel n).out = m.out ++ l
  | 0, m, h => ⟨h, [], by simp [Mc.iter]⟩
  | n + 1, m, h => by
    obtain ⟨h1, l1, e1⟩ := h.go (ps := ps)
    obtain ⟨h2, l2, e2⟩ := Told.iter n h1
    exact ⟨h2, l1 ++ l2, by rw [Mc.iter, e2, e1, List.append_assoc]⟩
section
variable {ps : List PF} {inp : List Int} {fuel : Int} {out : List Ev}
theorem Ran.told (h : Ran ps inp fuel out) (hf : 0 ≤ fuel) : ∃ m, m.out = out ∧ m.over = true ∧ Told inp fuel m := by
  obtain ⟨m, ⟨n, hn⟩, h1, h2⟩ := h
  exact ⟨m, h2, h1, by rw [← hn]; exact (Told.iter n (Told.start ps inp hf)).1⟩
theorem Ran.last (h : Ran ps inp fuel out) (hf : 0 ≤ fuel) : ∃ l e, out = l ++ [e] ∧ e.kind = 7 ∧ (∀ x ∈ l, x.kind ≠ 7) ∧ (e.value = 1 → (stepsL out : Int) = fuel) := by
  obtain ⟨m, rfl, ho, ht⟩ := h.told hf
  rcases ht.ends with ⟨h1, -⟩ | ⟨-, l, e, h1, h2, h3, h4⟩
  · rw [ho] at h1; cases h1
  · exact ⟨l, e, h1, h2, h3, fun h => by rw [← ht.st]; exact h4 h⟩
theorem Ran.steps (h : Ran ps inp fuel out) (hf : 0 ≤ fuel) : (stepsL out : Int) ≤ fuel := by
  obtain ⟨m, rfl, -, ht⟩ := h.told hf
  rw [← ht.st]
  exact ht.le
theorem Ran.fed (h : Ran ps inp fuel out) (hf : 0 ≤ fuel) : ∀ i x, (valsL out)[i]? = some x → x = inp.getD i 0 := by
  obtain ⟨m, rfl, -, ht⟩ := h.told hf
  exact ht.fed
/-- each run ends -/
theorem Good.ends (hp : Prog ps) : ∀ (k : Nat) (m : Mc) (f : Fr) (rest : List Fr), Good ps fuel m f rest → 3 * fuel + 1 - (3 * m.steps - rest.length) ≤ k → ∃ m', Reach ps fuel m m' ∧ m'.over = true ∧ (m'.out.length : Int) ≤ 7 * fuel + 7
  | 0, m, f, rest, h, hk => by
    have := h.s1
    omega
  | k + 1, m, f, rest, h, hk => by
    obtain ⟨h1, h2⟩ := h.step hp
    have hl := h.len
    have hs := h.s1
    have hr := Reach.one (ps := ps) (fuel := fuel) h.on rfl
    rcases h2 with h2 | ⟨f', rest', h2, h3⟩
    · exact ⟨_, hr, h2, by omega⟩
    · obtain ⟨m', h4, h5, h6⟩ := Good.ends hp k _ _ _ h2 (by omega)
      exact ⟨m', hr.tr h4, h5, h6⟩
theorem Ran.ex (hp : Prog ps) (hi : ∀ n ∈ inp, Num n) (hf : 0 ≤ fuel) : ∃ out, Ran ps inp fuel out ∧ (out.length : Int) ≤ 7 * fuel + 7 := by
  obtain ⟨f, hg⟩ := Good.start hp hi hf
  obtain ⟨m, h1, h2, h3⟩ := Good.ends hp (3 * fuel + 1 - (3 * (startM ps inp).steps - 0)).toNat _ _ _ hg (by simp only [List.length_nil]; omega)
  exact ⟨m.out, ⟨m, h1, h2, rfl⟩, h3⟩
end
theorem headD_drop (l : List Int) (n : Nat) : (l.drop n).headD 0 = l.getD n 0 := by
  rw [List.getD_eq_getElem?_getD, List.headD_eq_head?_getD, List.head?_drop]
theorem take_pre {α : Type} {N : Nat} {a : List α} (h : N ≤ a.length) (b : List α) : (a ++ b).take N = a.take N := List.take_append_of_le_length h
/-- two machines are alike but for what comes in; or they told so many events alike -/
def Sim (N : Nat) (a b : Mc) : Prop := (∃ i, b = a.to_ i) ∨ (N ≤ a.out.length ∧ N ≤ b.out.length ∧ a.out.take N = b.out.take N)
theorem Sim.far {ps : List PF} {N : Nat} {a b : Mc} {inpA inpB : List Int} {F G : Int} (ha : Told inpA F a) (hb : Told inpB G b) (h1 : N ≤ a.out.length) (h2 : N ≤ b.out.length) (h3 : a.out.take N = b.out.take N) : Sim N (a.go ps F) (b.go ps G) := by
  obtain ⟨-, la, ea⟩ := ha.go (ps := ps)
  obtain ⟨-, lb, eb⟩ := hb.go (ps := ps)
  right
  rw [ea, eb, take_pre h1, take_pre h2]
  exact ⟨by rw [List.length_append]; omega, by rw [List.length_append]; omega, h3⟩
theorem Sim.go {ps : List PF} {N : Nat} {a b : Mc} {inpA inpB : List Int} {F G : Int} {outA : List Ev} (ha : Told inpA F a) (hb : Told inpB G b) (hN : N ≤ outA.length) (hF : F = G ∨ (F ≤ G ∧ (N < outA.length ∨ ∀ l e, outA = l ++ [e] → e.value ≠ 1)))
    (hin : ∀ i, i < (valsL (outA.take N)).length → inpA.getD i 0 = inpB.getD i 0) (hout : ∃ l, outA = (a.go ps F).out ++ l) (hov : a.over = true → outA = a.out) (hov2 : (a.go ps F).over = true → outA = (a.go ps F).out) (h : Sim N a b) : Sim N (a.go ps F) (b.go ps G) := by
  rcases h with ⟨i, rfl⟩ | ⟨h1, h2, h3⟩
  rotate_left
  · exact Sim.far ha hb h1 h2 h3
  by_cases hlt : N ≤ a.out.length
  · exact Sim.far ha hb hlt hlt rfl
  have hon : a.over = false := by
    cases ho : a.over with
    | false => rfl
    | true =>
      rw [hov ho] at hN
      exact absurd hN hlt
  have eA : a.go ps F = a.do_ ps F := by unfold Mc.go; rw [hon]; rfl
  have eB : (a.to_ i).go ps G = (a.to_ i).do_ ps G := by unfold Mc.go; rw [show (a.to_ i).over = false from hon]; rfl
  rw [eA] at hout hov2 ⊢
  rw [eB]
  by_cases hd : Dry F a
  · obtain ⟨k, hk⟩ := Mc.dry (ps := ps) hd
    rw [hk] at hov2
    have ho := hov2 rfl
    have hl : outA.length = a.out.length + 1 := by rw [ho]; simp [Mc.end_]
    have hFG : F = G := by
      rcases hF with h | ⟨-, h | h⟩
      · exact h
      · omega
      · exact absurd rfl (h _ _ ho)
    subst hFG
    rw [Mc.to_do (Or.inr hd)]
    exact Or.inl ⟨i, rfl⟩
  have hd2 : ¬ Dry G a := fun hd2 => by
    obtain ⟨f, rest, x, n, ts, h1, h2, h3⟩ := hd2
    have hle := ha.le
    have : F = G := by
      rcases hF with h | ⟨h, -⟩
      · exact h
      · omega
    exact hd ⟨f, rest, x, n, ts, h1, h2, h3.trans this.symm⟩
  by_cases hr : Reads a
  rotate_left
  · rw [Mc.to_do (Or.inl hr), Mc.do_more hd hd2]
    exact Or.inl ⟨i, rfl⟩
  obtain ⟨e, num, at_, v, m1, hek, hdo⟩ := Mc.do_rd (ps := ps) hr hd
  have hA : a.do_ ps F = (a.to_ a.inp).do_ ps F := rfl
  have hB : (a.to_ i).do_ ps G = (a.to_ i).do_ ps F := Mc.do_more (m := a.to_ i) hd2 hd
  rw [hA, hdo] at hout ⊢
  rw [hB, hdo]
  by_cases hN2 : N ≤ a.out.length + 1
  · right
    have hh : ∀ (r w : Ev), (a.out ++ [e, r, w]).take N = (a.out ++ [e]).take N := fun r w => by
      rw [show a.out ++ [e, r, w] = (a.out ++ [e]) ++ [r, w] by simp]
      exact take_pre (by simpa using hN2) _
    refine ⟨?_, ?_, ?_⟩
    · show N ≤ (a.out ++ _).length
      simp; omega
    · show N ≤ (a.out ++ _).length
      simp; omega
    · show (a.out ++ [e, _, _]).take N = (a.out ++ [e, _, _]).take N
      rw [hh, hh]
  · have hv : a.inp.headD 0 = i.headD 0 := by
      rw [ha.inp, headD_drop]
      have hi : i = inpB.drop (valsL a.out).length := hb.inp
      rw [hi, headD_drop]
      refine hin _ ?_
      obtain ⟨l, hl⟩ := hout
      have hl' : outA = a.out ++ [e, ⟨3, num, at_, 0, 0, a.inp.headD 0⟩] ++ (⟨2, num, at_, v, 0, a.inp.headD 0⟩ :: l) := by rw [hl]; simp [Mc.to_]
      obtain ⟨d, hd⟩ : ∃ d, N = (a.out ++ [e, ⟨3, num, at_, 0, 0, a.inp.headD 0⟩]).length + d := ⟨N - (a.out.length + 2), by simp; omega⟩
      rw [hl', hd, List.take_length_add_append, valsL_app, valsL_app, List.length_append, List.length_append]
      have : (valsL [e, ⟨3, num, at_, 0, 0, a.inp.headD 0⟩]).length = 1 := by simp [valsL, hek]
      omega
    rw [hv]
    exact Or.inl ⟨i.tail, rfl⟩
theorem Sim.iter {ps : List PF} {N : Nat} {inpA inpB : List Int} {F G : Int} {outA : List Ev} (hF0 : 0 ≤ F) (hG0 : 0 ≤ G) (hA : Ran ps inpA F outA) (hN : N ≤ outA.length) (hF : F = G ∨ (F ≤ G ∧ (N < outA.length ∨ ∀ l e, outA = l ++ [e] → e.value ≠ 1)))
    (hin : ∀ i, i < (valsL (outA.take N)).length → inpA.getD i 0 = inpB.getD i 0) : ∀ n, Sim N ((startM ps inpA).iter ps F n) ((startM ps inpB).iter ps G n)
  | 0 => Or.inl ⟨inpB, rfl⟩
  | n + 1 => by
    have ih := Sim.iter hF0 hG0 hA hN hF hin n
    have tA := (Told.iter (ps := ps) n (Told.start ps inpA hF0)).1
    have tB := (Told.iter (ps := ps) n (Told.start ps inpB hG0)).1
    have sA : (startM ps inpA).iter ps F (n + 1) = ((startM ps inpA).iter ps F n).go ps F := by rw [Mc.iter_add]; rfl
    have sB : (startM ps inpB).iter ps G (n + 1) = ((startM ps inpB).iter ps G n).go ps G := by rw [Mc.iter_add]; rfl
    obtain ⟨mA, ⟨kA, hk⟩, hoA, rfl⟩ := hA
    have hfin : ∀ k, ((startM ps inpA).iter ps F k).over = true → mA.out = ((startM ps inpA).iter ps F k).out := fun k hk2 => by
      rw [Reach.same ⟨k, rfl⟩ ⟨kA, hk⟩ hk2 hoA]
    rw [sA, sB]
    refine Sim.go tA tB hN hF hin ?_ (hfin n) (by rw [← sA]; exact hfin (n + 1)) ih
    obtain ⟨-, l, hl⟩ := Told.iter (ps := ps) (fuel := F) kA (tA.go (ps := ps)).1
    refine ⟨l, ?_⟩
    rw [← hl, ← sA, ← Mc.iter_add, Nat.add_comm, Mc.iter_add, hk, Mc.iter_over hoA]
/-- TWO RUNS TELL ALIKE, as long as there is fuel and what came in was alike -/
theorem Ran.sim {ps : List PF} {N : Nat} {inpA inpB : List Int} {F G : Int} {outA outB : List Ev} (hF0 : 0 ≤ F) (hG0 : 0 ≤ G) (hA : Ran ps inpA F outA) (hB : Ran ps inpB G outB) (hN : N ≤ outA.length) (hF : F = G ∨ (F ≤ G ∧ (N < outA.length ∨ ∀ l e, outA = l ++ [e] → e.value ≠ 1)))
    (hin : ∀ i, i < (valsL (outA.take N)).length → inpA.getD i 0 = inpB.getD i 0) : N ≤ outB.length ∧ outA.take N = outB.take N := by
  have hs := Sim.iter hF0 hG0 hA hN hF hin
  obtain ⟨mA, ⟨kA, hkA⟩, hoA, rfl⟩ := hA
  obtain ⟨mB, ⟨kB, hkB⟩, hoB, rfl⟩ := hB
  have h := hs (kA + kB)
  rw [Mc.iter_add, hkA, Mc.iter_over hoA, Nat.add_comm, Mc.iter_add, hkB, Mc.iter_over hoB] at h
  rcases h with ⟨i, rfl⟩ | ⟨-, h2, h3⟩
  · exact ⟨hN, rfl⟩
  · exact ⟨h2, h3⟩
set_option maxRecDepth 20000 in
theorem sizeP_step (k n : Int) (args : List PE) (IH : ∀ x ∈ args, ∀ (m : Int) (val : Value) (W : World), 0 ≤ m → m ≤ 15 → PEV W x val →
      Calls Try.prog 110 #[val, .int .i64 m] W fun r w' => r = .returned (.int .i64 (x.size m)) ∧ Bel W w')
    (m : Int) (val : Value) (w : World) (h0 : 0 ≤ m) (h15 : m ≤ 15) (h : PEV w (.mk k n args) val) :
    Calls Try.prog 110 #[val, .int .i64 m] w fun r w' => r = .returned (.int .i64 ((PE.mk k n args).size m)) ∧ Bel w w' := by
  obtain ⟨v, rfl, A, c, rfl, hc, hm, hA⟩ := h
  have HI := Lib.hid IH; clear IH
  have HA := Lib.hid hA; clear hA
  have HT : Hid (sizeP args 1 m = (PE.mk k n args).size m) := Lib.hid (by rw [PE.size])
  generalize (PE.mk k n args).size m = T at HT ⊢
  have hlm : args.length ≤ 9223372036854775807 := by have := hm.1; simp only [maxLen] at this; simp only [PE.args] at hc; omega
  simp only [PE.kind, PE.n, PE.args] at HA hc ⊢
  clear hm
  go_enter Try.func110, Try.ntmps110
  go_wp2
  go_loopw [5, 11] (fun a i wr => ∃ (j : Nat) (x : Int), a = .int .i64 x ∧ i = .int .i64 j ∧ j ≤ args.length ∧ 1 ≤ x ∧ x ≤ m + 1 ∧ Hid (sizeP (args.drop j) x m = T) ∧ Hid (Bel w wr)) (fun _ i _ => args.length - (intOf i).toNat)
  case atStart => exact ⟨0, 1, rfl, rfl, by omega, by omega, by omega, by simpa using HT, (Bel.rfl_ w).al _⟩
  case round =>
    obtain ⟨j, x, rfl, rfl, hj, hx1, hx2, HS, HB⟩ := hrel
    clear HT
    by_cases hlt : j < args.length
    · obtain ⟨q, hq⟩ : ∃ e, args[j]? = some e := ⟨_, List.getElem?_eq_getElem hlt⟩
      obtain ⟨b, o, rfl, hA⟩ := HA.out (by omega)
      obtain ⟨B, mm, cc, hs, y0, y1, y2⟩ := peR.cells hA hq
      have y0 := HB.out.cell y0
      have y1 := HB.out.cell y1
      have y2 := HB.out.cell y2
      have HQ := Lib.hid hq; have HSL := Lib.hid (hs.keep HB.out); clear hq hs hA HA
      have HQV : Hid (∀ W, Bel wr W → PEV W q (.agg #[.int .i64 q.kind, .int .i64 q.n, .slice B mm cc])) := Lib.hid fun W hb => ⟨_, rfl, HSL.out.keep hb⟩
      generalize q.kind = qk at *
      generalize q.n = qn at *
      by_cases hmx : m < x
      · have HR : Hid (x = T) := Lib.hid (by have := HS.out; rw [sizeP_drop HQ.out, if_pos hmx] at this; exact this)
        go_wp2
        go_ret
        exact ⟨by rw [HR.out]; rfl, HB.out.al _⟩
      · have HR : Hid (sizeP (args.drop (j + 1)) (x + q.size (m - x)) m = T) := Lib.hid (by have := HS.out; rw [sizeP_drop HQ.out, if_neg hmx] at this; exact this)
        have hle := PE.size_le q (m - x) (by omega)
        go_wp2_with fail
        refine (HI.out q (List.mem_of_getElem? HQ.out) (m - x) _ _ (by omega) (by omega) (HQV.out _ ((Bel.rfl_ _).al _))).mono ?_
        rintro e w' ⟨rfl, hb⟩
        have HB' := Lib.hid ((HB.out.al _).tr hb); clear hb
        generalize q.size (m - x) = z at hle HR
        go_wp2
        go_roundw
        case rel => exact ⟨j + 1, x + z, by go_num, by go_num, by omega, by omega, by omega, HR, HB'⟩
        case measure => simp [intOf]; omega
    · have HR : Hid (x = T) := Lib.hid (by have := HS.out; rw [sizeP_end (by omega)] at this; exact this)
      go_wp2
      go_ret
      exact ⟨by rw [HR.out]; rfl, HB.out⟩
theorem sizeP_any : ∀ (q : PE) (m : Int) (val : Value) (w : World), 0 ≤ m → m ≤ 15 → PEV w q val →
    Calls Try.prog 110 #[val, .int .i64 m] w fun r w' => r = .returned (.int .i64 (q.size m)) ∧ Bel w w' :=
  PE.ind fun k n args ih m val w h0 h15 h => sizeP_step k n args ih m val w h0 h15 h
end Go.Proofs.Ytgkpplbomciehaa
