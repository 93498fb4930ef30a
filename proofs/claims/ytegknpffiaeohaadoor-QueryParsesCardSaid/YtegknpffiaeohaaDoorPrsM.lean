/- What reads in a world whose elder blocks are hidden: it stays when those turn; queries. Each lemma states its own conditions. -/
import Derived.Test.YtegknpffiaeohaaDoorQryC
namespace Go.Proofs.YtegknpffiaeohaaDoor
open Go.RowKit

/-- the world with all blocks below a bound hidden -/
def low (B : Nat) (w : World) : World := { w with heap := w.heap.mapIdx fun i o => if i < B then .cells #[] 0 (0, 0) else o }
section
variable {B : Nat} {w w' : World}
theorem low_size (B : Nat) (w : World) : (low B w).heap.size = w.heap.size := by simp [low]
theorem low_at (k : Nat) : (low B w).heap[k]? = w.heap[k]?.map fun o => if k < B then .cells #[] 0 (0, 0) else o := by
  unfold low
  exact Array.getElem?_mapIdx
theorem low_ge {k : Nat} (h : B ≤ k) : (low B w).heap[k]? = w.heap[k]? := by
  rw [low_at]
  cases w.heap[k]? with
  | none => rfl
  | some o => simp only [Option.map_some]; rw [if_neg (by omega)]
theorem low_cell {b o : Nat} {v : Value} (h : (low B w).cell? ⟨b, o, none⟩ = some v) : B ≤ b ∧ w.cell? ⟨b, o, none⟩ = some v := by
  by_cases hb : b < B
  · unfold World.cell? at h
    simp only [low_at] at h
    cases hw : w.heap[b]? with
    | none => rw [hw] at h; simp at h
    | some ob => rw [hw] at h; simp [hb] at h
  · exact ⟨by omega, (World.cell?_of_block (low_ge (by dsimp only; omega))).symm.trans h⟩
theorem low_bel (h1 : w'.os = w.os) (h2 : w'.tape = w.tape) (h3 : w'.output = w.output) (h4 : w.heap.size ≤ w'.heap.size) (h5 : ∀ k, B ≤ k → k < w.heap.size → w'.heap[k]? = w.heap[k]?) : Bel (low B w) (low B w') := by
  refine ⟨h1, h2, h3, by rw [low_size, low_size]; exact h4, fun k hk => ?_⟩
  rw [low_size] at hk
  by_cases hb : k < B
  · rw [low_at, low_at, Array.getElem?_eq_getElem hk, Array.getElem?_eq_getElem (Nat.lt_of_lt_of_le hk h4)]
    simp [hb]
  · rw [low_ge (by omega), low_ge (by omega)]
    exact h5 k (by omega) hk
theorem low_grown {g : Nat} (h : w.grownBy w' (some g)) (hg : g < B) : Bel (low B w) (low B w') :=
  low_bel h.os h.tape h.output h.size fun k hk hlt => h.block k hlt (fun e => by
    have := Option.some.inj e
    omega)
theorem low_belB (h : Bel w w') : Bel (low B w) (low B w') := low_bel h.os h.tape h.output h.size fun k _ hlt => h.block k hlt
theorem low_set (w : World) {g i : Nat} (v : Value) (hg : g < B) : Bel (low B w) (low B (w.setCell ⟨g, i, none⟩ v)) := by
  have h := (Below.refl g w).setCell (p := ⟨g, i, none⟩) (Nat.le_refl _) v
  exact low_bel h.os h.tape h.output h.size fun k hk _ => heap_setCell_other w ⟨g, i, none⟩ k v (by dsimp only; omega)
theorem AskR.more {X Y : World} (hc : ∀ b o v, X.cell? ⟨b, o, none⟩ = some v → Y.cell? ⟨b, o, none⟩ = some v) {q : Ask} {cs : List Value} (h : AskR X q cs) : AskR Y q cs := by
  induction h with
  | nil k n A c hc hA => exact .nil k n A c hc hA
  | row k n args b o c f hp hl hm hf hcs ih => exact .row k n args b o c f hp hl hm ih fun i x hx j u hu => hc _ _ _ (hcs i x hx j u hu)
theorem Sl.more {X Y : World} (hc : ∀ b o v, X.cell? ⟨b, o, none⟩ = some v → Y.cell? ⟨b, o, none⟩ = some v) {v : Value} {xs : List Ask} (h : Sl askR X v xs) : Sl askR Y v xs := by
  obtain ⟨A, c, h1, h2, h3, h4⟩ := h
  refine ⟨A, c, h1, h2, h3, fun hp => ?_⟩
  obtain ⟨b, o, hA, hx⟩ := h4 hp
  exact ⟨b, o, hA, fun k x hk => (hx k x hk).imp fun cs ⟨h5, h6⟩ => ⟨AskR.more hc h5, fun j u hu => hc _ _ _ (h6 j u hu)⟩⟩
theorem low_up {v : Value} {xs : List Ask} (h : Sl askR (low B w) v xs) : Sl askR w v xs := h.more fun _ _ _ h => (low_cell h).2
theorem low_mono {B' : Nat} (hB : B' ≤ B) {v : Value} {xs : List Ask} (h : Sl askR (low B w) v xs) : Sl askR (low B' w) v xs :=
  h.more fun _ _ _ h => (World.cell?_of_block (low_ge (by have := (low_cell h).1; dsimp only; omega))).trans (low_cell h).2
theorem low_to {b o : Nat} {cs : List Value} (h : CellsAt w b o cs) (hb : B ≤ b) : CellsAt (low B w) b o cs := fun j u hu => (World.cell?_of_block (low_ge hb)).trans (h j u hu)
/-- a new row of one query, of two -/
theorem low_one {v : Value} {G : Nat} {t : TypeId} {a : Ask} (hB : Blk w G t #[.int .i64 a.kind, .int .i64 a.n, v]) (hG : B ≤ G) (hv : Sl askR (low B w) v a.args) : Sl askR (low B w) (.slice (some ⟨G, 0, none⟩) 1 1) [a] := by
  refine ⟨some ⟨G, 0, none⟩, 1, rfl, Nat.le_refl _, ⟨by simp [maxLen], fun h => by cases h⟩, fun _ => ⟨G, 0, rfl, fun i x hx => ?_⟩⟩
  cases i with
  | zero =>
    obtain rfl : a = x := by simpa using hx
    obtain ⟨k', n', args⟩ := a
    refine ⟨_, AskR.shut hv, low_to (fun j u hu => hB.cell (i := 0 + 0 * askR.size + j) ?_) hG⟩
    simpa [Ask.kind, Ask.n] using hu
  | succ i => simp at hx
theorem low_two {v u : Value} {G : Nat} {t : TypeId} {a b : Ask} (hB : Blk w G t #[.int .i64 a.kind, .int .i64 a.n, v, .int .i64 b.kind, .int .i64 b.n, u]) (hG : B ≤ G) (hv : Sl askR (low B w) v a.args) (hu : Sl askR (low B w) u b.args) :
    Sl askR (low B w) (.slice (some ⟨G, 0, none⟩) 2 2) [a, b] := by
  refine ⟨some ⟨G, 0, none⟩, 2, rfl, Nat.le_refl _, ⟨by simp [maxLen], fun h => by cases h⟩, fun _ => ⟨G, 0, rfl, fun i x hx => ?_⟩⟩
  match i, hx with
  | 0, hx =>
    obtain rfl : a = x := by simpa using hx
    obtain ⟨k', n', args⟩ := a
    refine ⟨_, AskR.shut hv, low_to (fun j u' hu' => hB.cell (i := 0 + 0 * askR.size + j) ?_) hG⟩
    match j, hu' with
    | 0, h | 1, h | 2, h => simpa [Ask.kind, Ask.n] using h
    | j + 3, h => simp at h
  | 1, hx =>
    obtain rfl : b = x := by simpa using hx
    obtain ⟨k', n', args⟩ := b
    refine ⟨_, AskR.shut hu, low_to (fun j u' hu' => hB.cell (i := 0 + 1 * askR.size + j) ?_) hG⟩
    match j, hu' with
    | 0, h | 1, h | 2, h => simpa [askR, Ask.kind, Ask.n] using h
    | j + 3, h => simp at h
  | i + 2, hx => simp at hx
end
end Go.Proofs.YtegknpffiaeohaaDoor
