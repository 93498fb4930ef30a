/- What a trace tells of frames, in plain words: events replayed. What a run tells of frames is what they are. Each lemma states its own conditions. -/
import Derived.Test.YtgkpplbomciehaaSca34
namespace Go.Proofs.Ytgkpplbomciehaa
open Go.RowKit
/-- a frame, as it is told -/
structure Fm where
  num : Int
  fn : Int
  vars : List (List Int)
/-- frames, the first one first; of each frame that there was its function -/
structure Rp where
  frs : List Fm
  fns : List Int
def Fr.fm (f : Fr) : Fm := ⟨f.num, f.fn, f.vars⟩
/-- may an event be told now? -/
def Fit (ps : List PF) (s : Rp) (e : Ev) : Prop :=
  (e.kind = 5 → e.value = s.fns.length ∧ 0 ≤ e.var ∧ e.var < ps.length ∧ (∃ f, s.frs.getLast? = some f ∧ f.num = e.frame)) ∧
  (e.kind = 6 → 2 ≤ s.frs.length ∧ ∃ f, s.frs.getLast? = some f ∧ f.num = e.frame) ∧
  (e.kind = 2 → ∃ f l, s.frs.getLast? = some f ∧ f.num = e.frame ∧ 0 ≤ e.var ∧ f.vars[e.var.toNat]? = some l ∧ 0 ≤ e.index ∧ e.index < l.length) ∧
  (0 ≤ e.frame ∧ e.frame < s.fns.length)
/-- what there is behind an event -/
def Rp.ev (ps : List PF) (s : Rp) (e : Ev) : Rp :=
  if e.kind = 5 then ⟨s.frs ++ [⟨e.value, e.var, zeroV (ps.getD e.var.toNat noF).sizes⟩], s.fns ++ [e.var]⟩
  else if e.kind = 6 then ⟨s.frs.dropLast, s.fns⟩
  else if e.kind = 2 then match s.frs.getLast? with
    | some f => ⟨s.frs.dropLast ++ [{ f with vars := setC f.vars e.var e.index e.value }], s.fns⟩
    | none => s
  else s
def Rp.evs (ps : List PF) : List Ev → Rp → Rp
  | [], s => s
  | e :: l, s => Rp.evs ps l (s.ev ps e)
/-- may events be told, one behind the other? -/
def Fits_ (ps : List PF) : List Ev → Rp → Prop
  | [], _ => True
  | e :: l, s => Fit ps s e ∧ Fits_ ps l (s.ev ps e)
theorem evs_app (ps : List PF) : ∀ (a b : List Ev) (s : Rp), Rp.evs ps (a ++ b) s = Rp.evs ps b (Rp.evs ps a s)
  | [], _, _ => rfl
  | e :: a, b, s => evs_app ps a b (s.ev ps e)
theorem fits_app (ps : List PF) : ∀ (a b : List Ev) (s : Rp), Fits_ ps (a ++ b) s ↔ Fits_ ps a s ∧ Fits_ ps b (Rp.evs ps a s)
  | [], b, s => by simp [Fits_, Rp.evs]
  | e :: a, b, s => by
    have := fits_app ps a b (s.ev ps e)
    simp only [List.cons_append, Fits_, Rp.evs, this, and_assoc]
/-- at the beginning -/
def Rp.start (ps : List PF) : Rp := ⟨[⟨0, (ps.length : Int) - 1, zeroV (ps.getD (ps.length - 1) noF).sizes⟩], [(ps.length : Int) - 1]⟩
/-- what a machine's frames are told as -/
def View (_ps : List PF) (m : Mc) (s : Rp) : Prop := s.frs = (m.frames.map Fr.fm).reverse ∧ (s.fns.length : Int) = m.made ∧ ∀ f ∈ m.frames, 0 ≤ f.num ∧ f.num < m.made
/-- what a machine told, replayed, is what it is -/
def Tells (ps : List PF) (m : Mc) : Prop := Fits_ ps m.out (Rp.start ps) ∧ View ps m (Rp.evs ps m.out (Rp.start ps))
theorem Tells.start {ps : List PF} (_hp : 0 < ps.length) (inp : List Int) : Tells ps (startM ps inp) := by
  refine ⟨trivial, rfl, rfl, fun f hf => ?_⟩
  have h1 : f = ⟨0, (ps.length : Int) - 1, -1, zeroV (ps.getD (ps.length - 1) noF).sizes, pushT (ps.getD (ps.length - 1) noF).cmds (firstC ps (ps.length - 1)) ++ [.back]⟩ := by simpa [startM] using hf
  subst h1
  simp [startM]
section
variable {ps : List PF} {m : Mc}
theorem View.last {s : Rp} {f : Fr} {rest : List Fr} (h : View ps m s) (hf : m.frames = f :: rest) : s.frs.getLast? = some f.fm ∧ s.frs.dropLast = (rest.map Fr.fm).reverse := by
  rw [h.1, hf, List.map_cons, List.reverse_cons]
  simp
/-- one more event, that says nothing of frames -/
theorem Tells.plain {m' : Mc} {e : Ev} (h : Tells ps m) (ho : m'.out = m.out ++ [e]) (hv : m'.frames.map Fr.fm = m.frames.map Fr.fm) (hm : m'.made = m.made) (h2 : e.kind ≠ 2) (h5 : e.kind ≠ 5) (h6 : e.kind ≠ 6) (hn : m.frames ≠ []) (hf : e.frame = m.num) : Tells ps m' := by
  obtain ⟨h1, h3, h4, h7⟩ := h
  have hs : (Rp.evs ps m.out (Rp.start ps)).ev ps e = Rp.evs ps m.out (Rp.start ps) := by
    unfold Rp.ev
    rw [if_neg h5, if_neg h6, if_neg h2]
  refine ⟨?_, ?_⟩
  · rw [ho, fits_app]
    refine ⟨h1, ⟨fun h => absurd h h5, fun h => absurd h h6, fun h => absurd h h2, ?_⟩, trivial⟩
    cases hfr : m.frames with
    | nil => exact absurd hfr hn
    | cons f rest =>
      have := h7 f (by rw [hfr]; simp)
      have hnum : m.num = f.num := by unfold Mc.num; rw [hfr]
      rw [hf, hnum]
      omega
  · rw [ho, evs_app]
    show View ps m' ((Rp.evs ps m.out (Rp.start ps)).ev ps e)
    rw [hs]
    refine ⟨by rw [h3, hv], by rw [hm]; exact h4, fun f hf' => ?_⟩
    have : f.fm ∈ m.frames.map Fr.fm := by rw [← hv]; exact List.mem_map_of_mem hf'
    obtain ⟨g, hg, hfg⟩ := List.mem_map.1 this
    have h8 := h7 g hg
    have : g.num = f.num := by injection hfg
    rw [hm]
    omega
theorem Tells.tell (h : Tells ps m) {k a v i n : Int} (h2 : k ≠ 2) (h5 : k ≠ 5) (h6 : k ≠ 6) (hn : m.frames ≠ []) : Tells ps (m.tell k a v i n) := h.plain rfl rfl rfl h2 h5 h6 hn rfl
theorem Tells.end_ (h : Tells ps m) (a how : Int) (hn : m.frames ≠ []) : Tells ps (m.end_ a how) := h.plain rfl rfl rfl (by simp) (by simp) (by simp) hn rfl
/-- the machine is another one, but tells alike -/
theorem Tells.same {m' : Mc} (h : Tells ps m) (ho : m'.out = m.out) (hv : m'.frames.map Fr.fm = m.frames.map Fr.fm) (hm : m'.made = m.made) : Tells ps m' := by
  obtain ⟨h1, h3, h4, h7⟩ := h
  refine ⟨by rw [ho]; exact h1, by rw [ho, h3, hv], by rw [ho, hm]; exact h4, fun f hf' => ?_⟩
  have : f.fm ∈ m.frames.map Fr.fm := by rw [← hv]; exact List.mem_map_of_mem hf'
  obtain ⟨g, hg, hfg⟩ := List.mem_map.1 this
  have h8 := h7 g hg
  have : g.num = f.num := by injection hfg
  rw [hm]
  omega
/-- a write -/
theorem Tells.write {f : Fr} {rest : List Fr} (h : Tells ps m) (hf : m.frames = f :: rest) {v i : Int} {l : List Int} (hv : 0 ≤ v) (hl : f.vars[v.toNat]? = some l) (hi : 0 ≤ i) (hil : i < l.length) (a n : Int) : Tells ps (m.write a v i n) := by
  obtain ⟨h1, h2⟩ := h
  obtain ⟨hlast, hdrop⟩ := h2.last hf
  have hn : ((m.top fun f => { f with vars := setC f.vars v i n }).tell 2 a v i n).out = m.out ++ [⟨2, f.num, a, v, i, n⟩] := by unfold Mc.tell Mc.top Mc.num; simp only [hf]
  have hfr : (m.write a v i n).frames = { f with vars := setC f.vars v i n } :: rest := by unfold Mc.write Mc.tell Mc.top; simp only [hf]
  obtain ⟨h3, h4, h5⟩ := h2
  have hnum := h5 f (by rw [hf]; simp)
  refine ⟨?_, ?_⟩
  · show Fits_ ps ((m.top _).tell 2 a v i n).out _
    rw [hn, fits_app]
    refine ⟨h1, ⟨fun h => by simp at h, fun h => by simp at h, fun _ => ⟨f.fm, l, hlast, rfl, hv, hl, hi, hil⟩, ?_⟩, trivial⟩
    show 0 ≤ f.num ∧ f.num < _
    omega
  · show View ps _ (Rp.evs ps ((m.top _).tell 2 a v i n).out _)
    rw [hn, evs_app]
    have he : (Rp.evs ps m.out (Rp.start ps)).ev ps ⟨2, f.num, a, v, i, n⟩ = ⟨(rest.map Fr.fm).reverse ++ [{ f.fm with vars := setC f.vars v i n }], (Rp.evs ps m.out (Rp.start ps)).fns⟩ := by
      unfold Rp.ev
      rw [if_neg (by simp), if_neg (by simp), if_pos rfl, hlast, hdrop]
      rfl
    show View ps _ ((Rp.evs ps m.out (Rp.start ps)).ev ps ⟨2, f.num, a, v, i, n⟩)
    rw [he]
    refine ⟨?_, h4, fun g hg => ?_⟩
    · rw [hfr]
      simp [Fr.fm]
    · rw [hfr] at hg
      rcases List.mem_cons.1 hg with rfl | hg
      · exact hnum
      · exact h5 g (by rw [hf]; simp [hg])
/-- writes of parameters -/
theorem Tells.writes (a : Int) : ∀ (l : List Int) (i : Nat) (m : Mc) (f : Fr) (rest : List Fr), Tells ps m → m.frames = f :: rest → (∀ j, i ≤ j → j < i + l.length → ∃ c, f.vars[j]? = some c ∧ 0 < c.length) → Tells ps (Mc.writes a l i m)
  | [], _, _, _, _, h, _, _ => h
  | n :: l, i, m, f, rest, h, hf, hc => by
    obtain ⟨c, hc1, hc2⟩ := hc i (Nat.le_refl _) (by simp)
    have h1 := h.write hf (v := (i : Int)) (i := 0) (l := c) (by omega) (by simpa using hc1) (by omega) (by omega) a n
    have hfr : (m.write a i 0 n).frames = { f with vars := setC f.vars i 0 n } :: rest := by unfold Mc.write Mc.tell Mc.top; simp only [hf]
    refine Tells.writes a l (i + 1) _ _ rest h1 hfr fun j hj hj2 => ?_
    obtain ⟨c2, h3, h4⟩ := hc j (by omega) (by simp; omega)
    refine ⟨c2, ?_, h4⟩
    show (setC f.vars i 0 n)[j]? = _
    unfold setC
    rw [List.getElem?_set_ne (by simp; omega)]
    exact h3
end
section
variable {ps : List PF} {m : Mc} {fuel : Int}
/-- a frame is made -/
theorem Tells.push {f : Fr} {rest : List Fr} (h : Tells ps m) (hf : m.frames = f :: rest) {v : Int} (hv0 : 0 ≤ v) (hv1 : v < ps.length) (a at2 : Int) (ts : List Tk) :
    Tells ps { m.tell 5 a v 0 m.made with made := m.made + 1, frames := ⟨m.made, v, at2, zeroV (ps.getD v.toNat noF).sizes, ts⟩ :: m.frames } := by
  obtain ⟨h1, h2⟩ := h
  obtain ⟨hlast, hdrop⟩ := h2.last hf
  obtain ⟨h3, h4, h5⟩ := h2
  have hnum := h5 f (by rw [hf]; simp)
  have hn : (m.tell 5 a v 0 m.made).out = m.out ++ [⟨5, f.num, a, v, 0, m.made⟩] := by unfold Mc.tell Mc.num; simp only [hf]
  have he : (Rp.evs ps m.out (Rp.start ps)).ev ps ⟨5, f.num, a, v, 0, m.made⟩ = ⟨(Rp.evs ps m.out (Rp.start ps)).frs ++ [⟨m.made, v, zeroV (ps.getD v.toNat noF).sizes⟩], (Rp.evs ps m.out (Rp.start ps)).fns ++ [v]⟩ := by
    unfold Rp.ev
    rw [if_pos rfl]
  refine ⟨?_, ?_⟩
  · show Fits_ ps (m.tell 5 a v 0 m.made).out _
    rw [hn, fits_app]
    refine ⟨h1, ⟨fun _ => ⟨h4.symm, hv0, hv1, f.fm, hlast, rfl⟩, fun h => by simp at h, fun h => by simp at h, ?_⟩, trivial⟩
    show 0 ≤ f.num ∧ f.num < _
    omega
  · show View ps _ (Rp.evs ps (m.tell 5 a v 0 m.made).out _)
    rw [hn, evs_app]
    show View ps _ ((Rp.evs ps m.out (Rp.start ps)).ev ps ⟨5, f.num, a, v, 0, m.made⟩)
    rw [he]
    refine ⟨?_, ?_, fun g hg => ?_⟩
    · rw [List.map_cons, List.reverse_cons, ← h3]
      rfl
    · rw [List.length_append]
      show ((_ + 1 : Nat) : Int) = m.made + 1
      omega
    · show 0 ≤ g.num ∧ g.num < m.made + 1
      rcases List.mem_cons.1 hg with rfl | hg
      · show 0 ≤ m.made ∧ m.made < m.made + 1
        omega
      · have := h5 g hg
        omega
/-- a frame ends -/
theorem Tells.pop {f c c' : Fr} {rest : List Fr} (h : Tells ps m) (hf : m.frames = f :: c :: rest) (hc : c'.fm = c.fm) (a n : Int) : Tells ps { m.tell 6 a 0 0 n with frames := c' :: rest } := by
  obtain ⟨h1, h2⟩ := h
  obtain ⟨hlast, hdrop⟩ := h2.last hf
  obtain ⟨h3, h4, h5⟩ := h2
  have hnum := h5 f (by rw [hf]; simp)
  have hn : (m.tell 6 a 0 0 n).out = m.out ++ [⟨6, f.num, a, 0, 0, n⟩] := by unfold Mc.tell Mc.num; simp only [hf]
  have he : (Rp.evs ps m.out (Rp.start ps)).ev ps ⟨6, f.num, a, 0, 0, n⟩ = ⟨((c :: rest).map Fr.fm).reverse, (Rp.evs ps m.out (Rp.start ps)).fns⟩ := by
    unfold Rp.ev
    rw [if_neg (by simp), if_pos rfl, hdrop]
  refine ⟨?_, ?_⟩
  · show Fits_ ps (m.tell 6 a 0 0 n).out _
    rw [hn, fits_app]
    refine ⟨h1, ⟨fun h => by simp at h, fun _ => ⟨by rw [h3, hf]; simp, f.fm, hlast, rfl⟩, fun h => by simp at h, ?_⟩, trivial⟩
    show 0 ≤ f.num ∧ f.num < _
    omega
  · show View ps _ (Rp.evs ps (m.tell 6 a 0 0 n).out _)
    rw [hn, evs_app]
    show View ps _ ((Rp.evs ps m.out (Rp.start ps)).ev ps ⟨6, f.num, a, 0, 0, n⟩)
    rw [he]
    refine ⟨?_, h4, fun g hg => ?_⟩
    · show ((c :: rest).map Fr.fm).reverse = ((c' :: rest).map Fr.fm).reverse
      rw [List.map_cons, List.map_cons, hc]
    · rcases List.mem_cons.1 hg with rfl | hg
      · have h6 := h5 c (by rw [hf]; simp)
        have : g.num = c.num := by injection hc
        show 0 ≤ g.num ∧ g.num < m.made
        omega
      · exact h5 g (by rw [hf]; simp [hg])
theorem Fits.var {z : List Int} {vs : List (List Int)} (h : Fits z vs) {v : Int} (h0 : 0 ≤ v) (hv : v < z.length) : ∃ l, vs[v.toNat]? = some l ∧ (z.getD v.toNat 0 ≤ 0 → 0 < l.length) := by
  have hlt : v.toNat < vs.length := by rw [h.1]; omega
  exact ⟨_, List.getElem?_eq_getElem hlt, fun hz => (h.2 _ _ (List.getElem?_eq_getElem hlt)).1 hz⟩
theorem zeroV_cell {z : List Int} (h : ∀ n ∈ z, 0 ≤ n ∧ n ≤ 8) {j : Nat} (hj : j < z.length) : ∃ c, (zeroV z)[j]? = some c ∧ 0 < c.length := by
  unfold zeroV
  rw [List.getElem?_map, List.getElem?_eq_getElem hj]
  refine ⟨_, rfl, ?_⟩
  rw [List.length_replicate]
  have := h _ (List.getElem_mem hj)
  split <;> omega
theorem Tells.do_ (hp : Prog ps) {f : Fr} {rest : List Fr} (hg : Good ps fuel m f rest) (h : Tells ps m) : Tells ps (m.do_ ps fuel) := by
  obtain ⟨hfr, ⟨g, hf0, hgg, hfit, hts, -, -⟩, hfn, hrst, -, -, -, -, -, -, -, -⟩ := hg
  cases htk : f.tasks with
  | nil => rw [htk] at hts; exact hts.elim
  | cons t ts =>
    rw [htk] at hts
    cases t with
    | back =>
      rw [Mc.do_back hfr htk]
      cases rest with
      | nil => exact h.end_ _ _ (by rw [hfr]; simp)
      | cons c rest =>
        obtain ⟨⟨gc, hc0, hgc, hcfit, hcts, -, -⟩, ⟨x, a, ts2, hctk, hx3⟩, hcfn, hrr⟩ := hrst
        rw [Mc.back_one hctk]
        split
        · exact h.end_ _ _ (by rw [hfr]; simp)
        · rw [hctk] at hcts
          obtain ⟨hxok, -⟩ := hcts
          obtain ⟨calls, hcl, hci⟩ := hxok.is
          obtain ⟨v0, v1⟩ := hci.var (by omega)
          obtain ⟨l, hl, hll⟩ := hcfit.var v0 v1
          have hl0 := hll (hci.one (by omega) (by omega))
          have hpop := h.pop (c' := { c with tasks := ts2 }) hfr rfl c.at_ ((ps.getD f.fn.toNat noF).result.val f.vars).1
          exact hpop.write (f := { c with tasks := ts2 }) rfl v0 hl (by omega) (by omega) _ _
    | cmd x a =>
      rw [Mc.do_cmd hfr htk]
      obtain ⟨hx, hts'⟩ := hts
      obtain ⟨calls, hcl, hci⟩ := hx.is
      split
      · exact h.end_ _ _ (by rw [hfr]; simp)
      split
      · rename_i h3
        have hs : Tells ps { m with steps := m.steps + 1, frames := { f with at_ := a } :: rest } := h.same rfl (by rw [hfr]; rfl) rfl
        have h1 := hs.tell (k := 1) (a := a) (v := 0) (i := 0) (n := 0) (by decide) (by decide) (by decide) (by simp)
        unfold Mc.call
        split
        · exact h1.end_ _ _ (by simp [Mc.tell])
        split
        · exact h1.end_ _ _ (by simp [Mc.tell])
        rename_i hv0 hr5
        obtain ⟨x0, x1⟩ := hci.fn h3
        have hgg2 := Prog.get x0 (show x.fn < ps.length by omega)
        obtain ⟨hl3, hlp⟩ := hp.args x0 (by omega) (hci.args h3)
        have hpf := hp.fns _ _ hgg2
        have h2 := h1.push rfl x0 (show x.fn < ps.length by omega) a (-1) (pushT (ps.getD x.fn.toNat noF).cmds (firstC ps x.fn.toNat) ++ [.back])
        have hal := argsV_len (vs := f.vars) (l := x.args) (by dsimp only at hv0; omega)
        refine h2.writes _ _ _ _ _ _ rfl fun j hj hj2 => ?_
        dsimp only at hj2 ⊢
        refine zeroV_cell hpf.sz ?_
        have := hpf.par1
        omega
      · rename_i h3
        have hs : Tells ps { m with steps := m.steps + 1, frames := { f with at_ := a, tasks := ts } :: rest } := h.same rfl (by rw [hfr]; rfl) rfl
        have h1 := hs.tell (k := 1) (a := a) (v := 0) (i := 0) (n := 0) (by decide) (by decide) (by decide) (by simp)
        have hne : (Mc.tell { m with steps := m.steps + 1, frames := { f with at_ := a, tasks := ts } :: rest } 1 a 0 0 0).frames ≠ [] := by simp [Mc.tell]
        unfold Mc.cmd
        split
        · rename_i h4
          obtain ⟨v0, v1⟩ := hci.var (by omega)
          obtain ⟨l, hl, hll⟩ := hfit.var v0 v1
          have hl0 := hll (hci.one (by omega) (by omega))
          have h2 : Tells ps { Mc.tell { m with steps := m.steps + 1, frames := { f with at_ := a, tasks := ts } :: rest } 1 a 0 0 0 with inp := m.inp.tail } := h1.same rfl rfl rfl
          have h5 := h2.tell (k := 3) (a := a) (v := 0) (i := 0) (n := m.inp.headD 0) (by decide) (by decide) (by decide) (by simp [Mc.tell])
          exact h5.write (f := { f with at_ := a, tasks := ts }) rfl v0 hl (by omega) (by omega) _ _
        split
        · exact h1.end_ _ _ hne
        split
        · exact h1.end_ _ _ hne
        split
        · rename_i h2
          obtain ⟨v0, v1⟩ := hci.var (by omega)
          obtain ⟨l, hl, -⟩ := hfit.var v0 v1
          split
          · rename_i hin
            dsimp only at hin
            rw [List.getD_eq_getElem?_getD, hl, Option.getD_some] at hin
            exact h1.write (f := { f with at_ := a, tasks := ts }) rfl v0 hl hin.1 hin.2 _ _
          · exact h1.end_ _ _ hne
        split
        · rename_i h2
          obtain ⟨v0, v1⟩ := hci.var (by omega)
          obtain ⟨l, hl, hll⟩ := hfit.var v0 v1
          have hl0 := hll (hci.one (by omega) (by omega))
          exact h1.write (f := { f with at_ := a, tasks := ts }) rfl v0 hl (by omega) (by omega) _ _
        split
        · exact h1.tell (by decide) (by decide) (by decide) hne
        split
        · exact h1.same rfl rfl rfl
        split
        · exact h1.same rfl rfl rfl
        · exact h1
theorem Tells.iter (hp : Prog ps) : ∀ (n : Nat) (m : Mc), Tells ps m → (m.over = true ∨ ∃ f rest, Good ps fuel m f rest) → Tells ps (m.iter ps fuel n)
  | 0, m, h, _ => h
  | n + 1, m, h, hg => by
    rw [Mc.iter]
    unfold Mc.go
    rcases hg with ho | ⟨f, rest, hg⟩
    · rw [ho, if_pos rfl]
      exact Tells.iter hp n m h (Or.inl ho)
    · rw [hg.on, if_neg (by decide)]
      refine Tells.iter hp n _ (h.do_ hp hg) ?_
      rcases (hg.step hp).2 with h1 | ⟨f', rest', h1, -⟩
      · exact Or.inl h1
      · exact Or.inr ⟨f', rest', h1⟩
end
/-- THE EVENTS OF A RUN MAY BE TOLD -/
theorem Ran.fits {ps : List PF} {inp : List Int} {fuel : Int} {out : List Ev} (hp : Prog ps) (hi : ∀ n ∈ inp, Num n) (hf : 0 ≤ fuel) (h : Ran ps inp fuel out) : Fits_ ps out (Rp.start ps) := by
  obtain ⟨m, ⟨n, hn⟩, -, rfl⟩ := h
  obtain ⟨f, hg⟩ := Good.start (fuel := fuel) hp hi hf
  have := Tells.iter hp n _ (Tells.start hp.pos inp) (Or.inr ⟨f, [], hg⟩)
  rw [hn] at this
  exact this.1
theorem RightP.fits {ps : List PF} {l : List Ev} (hp : Prog ps) (h : RightP ps l) : Fits_ ps l (Rp.start ps) := by
  obtain ⟨inp, hc, -, hb⟩ := h
  have hnum := cameL_num hc (fun n hn => by simp at hn)
  have key : ∀ F : Int, 0 ≤ F → Begins ps inp l F → Fits_ ps l (Rp.start ps) := fun F hF ⟨out, h1, _, h3⟩ => by
    have h4 := h1.fits hp hnum hF
    rw [← List.take_append_drop l.length out, fits_app, h3] at h4
    exact h4.1
  rcases hb with hb | hb
  · exact key _ (by decide) hb
  · exact key _ (by omega) hb
end Go.Proofs.Ytgkpplbomciehaa
