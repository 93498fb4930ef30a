/- The topmost frame of the document's machine, and what turns it. Each lemma states its own conditions. -/
import Derived.Test.YtgkpplbomciehaaTrr18
namespace Go.Proofs.Ytgkpplbomciehaa
open Go.RowKit
section
variable {w0 w w' : World} {f f' : Fr} {x x' : FrX} {fs : List Fr} {xs : List FrX} {gf cap n : Nat}
/-- where the topmost frame lies -/
theorem FrmsM.top {vfr : Value} (h : FrmsM w0 w vfr (f :: fs) (x :: xs)) : ∃ gf cap, vfr = .slice (some ⟨gf, 0, none⟩) (fs.length + 1) cap ∧ w0.heap.size ≤ gf ∧ (∀ j u, (cellsF f x)[j]? = some u → w.cell? ⟨gf, fs.length * 5 + j, none⟩ = some u) ∧ ∃ cur, Blk w gf FRT cur := by
  obtain ⟨gf, cap, rfl, h1, h2, h3, h4, h5⟩ := own_lies h.row (by simp)
  refine ⟨gf, cap, rfl, h1, fun j u hu => h4 _ u ?_, h5⟩
  rw [frC, List.getElem?_append_right (by rw [frC_len (by simpa using h.len)]; omega), frC_len (by simpa using h.len), show fs.length * 5 + j - fs.length * 5 = j by omega]
  exact hu
/-- .. and the one below it -/
theorem FrmsM.two {vfr : Value} {c : Fr} {y : FrX} (h : FrmsM w0 w vfr (f :: c :: fs) (x :: y :: xs)) : ∃ gf cap, vfr = .slice (some ⟨gf, 0, none⟩) (fs.length + 2) cap ∧ (∀ j u, (cellsF c y)[j]? = some u → w.cell? ⟨gf, fs.length * 5 + j, none⟩ = some u) := by
  obtain ⟨gf, cap, rfl, h1, h2, h3, h4, h5⟩ := own_lies h.row (by simp)
  refine ⟨gf, cap, rfl, fun j u hu => h4 _ u ?_⟩
  have hl : (frC fs xs).length = fs.length * 5 := frC_len (by simpa using h.len)
  rw [frC, frC, List.append_assoc, List.getElem?_append_right (by omega), hl, show fs.length * 5 + j - fs.length * 5 = j by omega, List.getElem?_append_left (List.getElem?_eq_some_iff.1 hu).1]
  exact hu
/-- a cell of the topmost frame is written -/
theorem FrmsM.set_top (h : FrmsM w0 w (.slice (some ⟨gf, 0, none⟩) (fs.length + 1) cap) (f :: fs) (x :: xs)) {cur : Array Value} (hb : Blk w gf FRT cur) (j : Nat) (u : Value) (hj : j < 5) (hc : cellsF f' x' = (cellsF f x).set j u) (hd : FrD w0 (w.setCell ⟨gf, fs.length * 5 + j, none⟩ u) f' x') (hg : x'.gs = x.gs) (ht : x'.tb = x.tb ∨ ∀ y ∈ xs, y.tb ≠ x'.tb) :
    FrmsM w0 (w.setCell ⟨gf, fs.length * 5 + j, none⟩ u) (.slice (some ⟨gf, 0, none⟩) (fs.length + 1) cap) (f' :: fs) (x' :: xs) := by
  have hl : (frC fs xs).length = fs.length * 5 := frC_len (by simpa using h.len)
  refine ⟨?_, by simpa using h.len, fun i f2 x2 hf hx => ?_, ?_, ?_⟩
  · have h1 := own_cell h.row (fs.length * 5 + j) u
    rw [frC, hc]
    rw [frC, List.set_append, if_neg (by omega), hl, show fs.length * 5 + j - fs.length * 5 = j by omega] at h1
    exact h1
  · cases i with
    | zero =>
      obtain rfl : f' = f2 := by simpa using hf
      obtain rfl : x' = x2 := by simpa using hx
      exact hd
    | succ i => exact (h.at_ (i + 1) f2 x2 (by simpa using hf) (by simpa using hx)).by_ fun k t cs ht hB => hB.aside hb (by rcases ht with rfl | rfl | rfl <;> decide) _ u
  · have := h.nd
    rw [List.flatMap_cons] at this ⊢
    rw [hg]
    exact this
  · have := h.td
    rw [List.map_cons, List.nodup_cons] at this ⊢
    refine ⟨fun hm => ?_, this.2⟩
    rcases ht with ht | ht
    · rw [ht] at hm
      exact this.1 hm
    · obtain ⟨y, hy, hye⟩ := List.mem_map.1 hm
      exact ht y hy hye
/-- where the command stands -/
theorem FrmsM.set_at (h : FrmsM w0 w (.slice (some ⟨gf, 0, none⟩) (fs.length + 1) cap) (f :: fs) (x :: xs)) {cur : Array Value} (hb : Blk w gf FRT cur) (a : Int) : FrmsM w0 (w.setCell ⟨gf, fs.length * 5 + 2, none⟩ (.int .i64 a)) (.slice (some ⟨gf, 0, none⟩) (fs.length + 1) cap) ({ f with at_ := a } :: fs) (x :: xs) :=
  have hd : FrD w0 (w.setCell ⟨gf, fs.length * 5 + 2, none⟩ (.int .i64 a)) f x := (h.at_ 0 f x rfl rfl).by_ fun k t cs ht hB => hB.aside hb (by rcases ht with rfl | rfl | rfl <;> decide) _ _
  h.set_top hb 2 _ (by decide) rfl ⟨hd.vars, hd.tasks⟩ rfl (.inl rfl)
/-- the tasks -/
theorem FrmsM.set_tasks (h : FrmsM w0 w (.slice (some ⟨gf, 0, none⟩) (fs.length + 1) cap) (f :: fs) (x :: xs)) {cur : Array Value} (hb : Blk w gf FRT cur) {vt : Value} {ts : List Tk} {tb : Nat} (ht : TasksT w0 w vt ts tb) (hn : tb = x.tb ∨ ∀ y ∈ xs, y.tb ≠ tb) :
    FrmsM w0 (w.setCell ⟨gf, fs.length * 5 + 4, none⟩ vt) (.slice (some ⟨gf, 0, none⟩) (fs.length + 1) cap) ({ f with tasks := ts } :: fs) ({ x with vt := vt, tb := tb } :: xs) :=
  h.set_top hb 4 _ (by decide) rfl ⟨((h.at_ 0 f x rfl rfl).by_ fun k t cs ht hB => hB.aside hb (by rcases ht with rfl | rfl | rfl <;> decide) _ _).vars, ht.by_ fun cs hB => hB.aside hb (by decide) _ _⟩ rfl hn
/-- a cell of a variable -/
theorem FrmsM.write {vfr : Value} (h : FrmsM w0 w vfr (f :: fs) (x :: xs)) {i j g : Nat} {l : List Int} (hl : f.vars[i]? = some l) (hg : x.gs[i]? = some g) (n : Int) :
    FrmsM w0 (w.setCell ⟨g, j, none⟩ (.int .i64 n)) vfr ({ f with vars := f.vars.set i (l.set j n) } :: fs) (x :: xs) := by
  have hD := h.at_ 0 f x rfl rfl
  obtain ⟨-, -, hb⟩ := hD.vars.blk i g l hg hl
  refine ⟨own_set h.row hb (by decide) j _, h.len, fun k f2 x2 hf hx => ?_, h.nd, h.td⟩
  cases k with
  | zero =>
    obtain rfl : _ = f2 := by simpa using hf
    obtain rfl : x = x2 := by simpa using hx
    exact ⟨hD.vars.set hl hg n, hD.tasks.by_ fun cs hB => hB.aside hb (by decide) _ _⟩
  | succ k =>
    have h2 := h.at_ (k + 1) f2 x2 (by simpa using hf) (by simpa using hx)
    have hnd := h.nd
    rw [List.flatMap_cons, List.nodup_append] at hnd
    have hgm : g ∈ x.gs := List.mem_of_getElem? hg
    have hx2 : x2 ∈ xs := List.mem_of_getElem? (by simpa using hx)
    refine ⟨⟨own_set h2.vars.row hb (by decide) j _, h2.vars.len, h2.vars.nd, fun i' g' l' hg' hl' => ?_⟩, h2.tasks.by_ fun cs hB => hB.aside hb (by decide) _ _⟩
    obtain ⟨a1, a2, a3⟩ := h2.vars.blk i' g' l' hg' hl'
    refine ⟨a1, a2, (heap_setCell_other w ⟨g, j, none⟩ g' _ ?_).trans a3⟩
    exact fun he => hnd.2.2 g hgm g' (List.mem_flatMap.2 ⟨x2, hx2, List.mem_of_getElem? hg'⟩) he.symm
/-- a frame is taken off -/
theorem FrmsM.pop (h : FrmsM w0 w (.slice (some ⟨gf, 0, none⟩) (fs.length + 1) cap) (f :: fs) (x :: xs)) : FrmsM w0 w (.slice (some ⟨gf, 0, none⟩) fs.length cap) fs xs := by
  have hl : (frC fs xs).length = fs.length * 5 := frC_len (by simpa using h.len)
  refine ⟨?_, by simpa using h.len, fun i f2 x2 hf hx => h.at_ (i + 1) f2 x2 (by simpa using hf) (by simpa using hx), ?_, ?_⟩
  · have h1 := own_cut h.row (k := fs.length) (by simp)
    rw [frC, ← hl, List.take_left'  rfl] at h1
    exact h1
  · have := h.nd
    rw [List.flatMap_cons, List.nodup_append] at this
    exact this.2.1
  · have := h.td
    rw [List.map_cons, List.nodup_cons] at this
    exact this.2
/-- a frame is put on: its row is the machine's no longer shared -/
theorem FrmsM.push {vfr vfr' : Value} (h : FrmsM w0 w vfr fs xs) (hd : FrD w0 w' f x) (ho : w'.ownsRow w0.heap.size FRT 5 vfr' (fs.length + 1) (frC fs xs ++ cellsF f x)) (hk : ∀ k t cs, (t = INTS ∨ t = INT ∨ t = TKT) → Blk w k t cs → Blk w' k t cs) (hn : x.gs.Nodup) (hg : ∀ g ∈ x.gs, ∀ y ∈ xs, g ∉ y.gs) (ht : ∀ y ∈ xs, y.tb ≠ x.tb) :
    FrmsM w0 w' vfr' (f :: fs) (x :: xs) := by
  refine ⟨ho, by simpa using h.len, fun i f2 x2 hf hx => ?_, ?_, ?_⟩
  · cases i with
    | zero =>
      obtain rfl : f = f2 := by simpa using hf
      obtain rfl : x = x2 := by simpa using hx
      exact hd
    | succ i => exact (h.at_ i f2 x2 (by simpa using hf) (by simpa using hx)).by_ hk
  · rw [List.flatMap_cons, List.nodup_append]
    refine ⟨hn, h.nd, fun a ha b hb he => ?_⟩
    obtain ⟨y, hy, hby⟩ := List.mem_flatMap.1 hb
    exact hg a ha y hy (he ▸ hby)
  · rw [List.map_cons, List.nodup_cons]
    refine ⟨fun hm => ?_, h.td⟩
    obtain ⟨y, hy, hye⟩ := List.mem_map.1 hm
    exact ht y hy hye
/-- blocks of a machine's frames are there -/
theorem FrmsM.gs_lt {vfr : Value} (h : FrmsM w0 w vfr fs xs) : ∀ y ∈ xs, ∀ g ∈ y.gs, g < w.heap.size := fun y hy g hg => by
  obtain ⟨i, hi⟩ := List.mem_iff_getElem?.1 hy
  have hlt : i < fs.length := by rw [← h.len]; exact (List.getElem?_eq_some_iff.1 hi).1
  have hD := h.at_ i _ y (List.getElem?_eq_getElem hlt) hi
  obtain ⟨k, hk⟩ := List.mem_iff_getElem?.1 hg
  have hk2 : k < (fs[i]).vars.length := by rw [← hD.vars.len]; exact (List.getElem?_eq_some_iff.1 hk).1
  exact (hD.vars.blk k g _ hk (List.getElem?_eq_getElem hk2)).2.2.lt
theorem FrmsM.tb_lt {vfr : Value} (h : FrmsM w0 w vfr fs xs) : ∀ y ∈ xs, y.tb < w.heap.size := fun y hy => by
  obtain ⟨i, hi⟩ := List.mem_iff_getElem?.1 hy
  have hlt : i < fs.length := by rw [← h.len]; exact (List.getElem?_eq_some_iff.1 hi).1
  have hD := h.at_ i _ y (List.getElem?_eq_getElem hlt) hi
  obtain ⟨⟨cells, ho, -⟩, hb⟩ := hD.tasks
  exact (ho.lt _ hb).2
end
end Go.Proofs.Ytgkpplbomciehaa
