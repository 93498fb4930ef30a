/- The document's reader from any state: Need, Number. What reads in a world whose elder blocks are hidden: it stays when those turn. The document's IsToken and JoinOf compute what they should. The document's reader of a name. What the document's reader of an expression hands back; its plain words. Each lemma states its own conditions. -/
import Derived.Test.YtmfjlcpjemccmaaGreatDoorTts06
import Derived.Test.YtmfjlcpjemccmaaGreatDoorTts02
namespace Go.Proofs.YtmfjlcpjemccmaaGreatDoor
open Go.RowKit
theorem tx_lt {l : List Tok} {p : Nat} {f : Bool} (h : tx l p f ≠ emp) : p < l.length := (List.getElem?_eq_some_iff.1 (tx_some h).choose_spec.1).1
theorem needD_le {l : List Tok} {s : ByteArray} {q : RS} (hs : s ≠ emp) (h : q.1 ≤ l.length) : (needD l s q).1 ≤ l.length := by
 unfold needD
 split
 ·exact h
 ·split
  ·rename_i h2
   have := tx_lt (l := l) (p := q.1) (f := false) (by rw [h2]; exact hs)
   exact this
  ·exact h
theorem digD_some {l : List Tok} {p : Nat} {f : Bool} (hok : ∀ t ∈ l, TokOk t) (h : digD (tx l p f) = true) : ∃ t, l[p]? = some t ∧ tx l p f = t.text ∧ f = false ∧ NumOk t.text := by
 unfold digD at h
 simp only [Bool.and_eq_true, decide_eq_true_eq] at h
 obtain ⟨t, h1, h2, h3⟩ := tx_some h.1
 refine ⟨t, h1, h2, h3, ?_⟩
 have ht := hok t (List.mem_of_getElem? h1)
 refine ht.1 (Decidable.byContradiction fun hk => ?_)
 have := ht.2.2 hk
 rw [← h2, h.2] at this
 cases this
theorem numD_le {l : List Tok} {q : RS} (hok : ∀ t ∈ l, TokOk t) (h : q.1 ≤ l.length) : (numD l q).2.1 ≤ l.length ∧ 0 ≤ (numD l q).1 ∧ (numD l q).1 ≤ 9999999 := by
 unfold numD
 by_cases hd : digD (tx l q.1 q.2) = true
 ·obtain ⟨t, hx, e, hf, ho⟩ := digD_some hok hd
  rw [if_pos hd, e]
  have := (List.getElem?_eq_some_iff.1 hx).1
  exact ⟨this, ho.bound⟩
 ·rw [if_neg hd]
  exact ⟨h, Int.le_refl _, by show (0 : Int) ≤ 9999999; omega⟩
/-- the world with all blocks below a bound hidden -/
def low (B : Nat) (w : World) : World := { w with heap := w.heap.mapIdx fun i o => if i < B then .cells #[] 0 (0, 0) else o }
section
variable {B : Nat} {w w' : World}
theorem low_size (B : Nat) (w : World) : (low B w).heap.size = w.heap.size := by simp [low]
theorem low_at (k : Nat) : (low B w).heap[k]? = w.heap[k]?.map fun o => if k < B then .cells #[] 0 (0, 0) else o := by
 unfold low
 exact Array.getElem?_mapIdx
theorem low_ge {k : Nat} (h : B ≤ k) : (low B w).heap[k]? = w.heap[k]? := by
 rw [low_at]
 cases w.heap[k]? with
 | none => rfl
 | some o => simp only [Option.map_some]; rw [if_neg (by omega)]
theorem low_cell {b o : Nat} {v : Value} (h : (low B w).cell? ⟨b, o, none⟩ = some v) : B ≤ b ∧ w.cell? ⟨b, o, none⟩ = some v := by
 by_cases hb : b < B
 ·unfold World.cell? at h
  simp only [low_at] at h
  cases hw : w.heap[b]? with
  | none => rw [hw] at h; simp at h
  | some ob => rw [hw] at h; simp [hb] at h
 ·exact ⟨by omega, (World.cell?_of_block (low_ge (by dsimp only; omega))).symm.trans h⟩
theorem low_bel (h1 : w'.os = w.os) (h2 : w'.tape = w.tape) (h3 : w'.output = w.output) (h4 : w.heap.size ≤ w'.heap.size) (h5 : ∀ k, B ≤ k → k < w.heap.size → w'.heap[k]? = w.heap[k]?) : Bel (low B w) (low B w') := by
 refine ⟨h1, h2, h3, by rw [low_size, low_size]; exact h4, fun k hk => ?_⟩
 rw [low_size] at hk
 by_cases hb : k < B
 ·rw [low_at, low_at, Array.getElem?_eq_getElem hk, Array.getElem?_eq_getElem (Nat.lt_of_lt_of_le hk h4)]
  simp [hb]
 ·rw [low_ge (by omega), low_ge (by omega)]
  exact h5 k (by omega) hk
theorem low_grown {g : Nat} (h : w.grownBy w' (some g)) (hg : g < B) : Bel (low B w) (low B w') :=
 low_bel h.os h.tape h.output h.size fun k hk hlt => h.block k hlt (fun e => by
  have := Option.some.inj e
  omega)
theorem low_belB (h : Bel w w') : Bel (low B w) (low B w') := low_bel h.os h.tape h.output h.size fun k _ hlt => h.block k hlt
theorem low_set (w : World) {g i : Nat} (v : Value) (hg : g < B) : Bel (low B w) (low B (w.setCell ⟨g, i, none⟩ v)) := by
 have h := (Below.refl g w).setCell (p := ⟨g, i, none⟩) (Nat.le_refl _) v
 exact low_bel h.os h.tape h.output h.size fun k hk _ => heap_setCell_other w ⟨g, i, none⟩ k v (by dsimp only; omega)
end
/-- what reads on when more can be read -/
def More {α : Type} (r : Rep α) : Prop := ∀ {X Y : World}, (∀ b o v, X.cell? ⟨b, o, none⟩ = some v → Y.cell? ⟨b, o, none⟩ = some v) → ∀ {cs x}, r.R X cs x → r.R Y cs x
theorem Sl.more {α : Type} {r : Rep α} (hm : More r) {X Y : World} (hc : ∀ b o v, X.cell? ⟨b, o, none⟩ = some v → Y.cell? ⟨b, o, none⟩ = some v) {v : Value} {xs : List α} (h : Sl r X v xs) : Sl r Y v xs := by
 obtain ⟨A, c, h1, h2, h3, h4⟩ := h
 refine ⟨A, c, h1, h2, h3, fun hp => ?_⟩
 obtain ⟨b, o, hA, hx⟩ := h4 hp
 exact ⟨b, o, hA, fun k x hk => (hx k x hk).imp fun cs ⟨h5, h6⟩ => ⟨hm hc h5, fun j u hu => hc _ _ _ (h6 j u hu)⟩⟩
section
variable {B : Nat} {w w' : World}
theorem low_upc : ∀ b o v, (low B w).cell? ⟨b, o, none⟩ = some v → w.cell? ⟨b, o, none⟩ = some v := fun _ _ _ h => (low_cell h).2
theorem low_monoc {B' : Nat} (hB : B' ≤ B) : ∀ b o v, (low B w).cell? ⟨b, o, none⟩ = some v → (low B' w).cell? ⟨b, o, none⟩ = some v :=
 fun _ _ _ h => (World.cell?_of_block (low_ge (by have := (low_cell h).1; dsimp only; omega))).trans (low_cell h).2
theorem low_up {α : Type} {r : Rep α} (hm : More r) {v : Value} {xs : List α} (h : Sl r (low B w) v xs) : Sl r w v xs := h.more hm low_upc
theorem low_mono {α : Type} {r : Rep α} (hm : More r) {B' : Nat} (hB : B' ≤ B) {v : Value} {xs : List α} (h : Sl r (low B w) v xs) : Sl r (low B' w) v xs := h.more hm (low_monoc hB)
theorem low_to {b o : Nat} {cs : List Value} (h : CellsAt w b o cs) (hb : B ≤ b) : CellsAt (low B w) b o cs := fun j u hu => (World.cell?_of_block (low_ge hb)).trans (h j u hu)
theorem low_blk {G : Nat} {t : TypeId} {cs : Array Value} (h : Blk w G t cs) (hG : B ≤ G) : Blk (low B w) G t cs := (low_ge hG).trans h
theorem low_unb {G : Nat} {t : TypeId} {cs : Array Value} (h : Blk (low B w) G t cs) (hG : B ≤ G) : Blk w G t cs := (low_ge hG).symm.trans h
end
theorem isTok_emp (kind : Int) : isTok kind emp = false := by
 cases h : isTok kind emp with
 | false => rfl
 | true =>
  obtain ⟨_, _, h3, h4⟩ := isTok_iff.1 h
  have h5 := tokAt_pos (tokErr_kind h4)
  rw [h3] at h5
  exact absurd h5.1 (Nat.lt_irrefl 0)
theorem allTok_snoc (l : List Tok) (t : Tok) : allTok (l ++ [t]) = (allTok l && isTok t.kind t.text) := by
 unfold allTok
 rw [List.all_append]; simp
theorem allTok_take {l : List Tok} {k : Nat} {t : Tok} (ht : l[k]? = some t) (h : isTok t.kind t.text = false) : allTok l = false := by
 unfold allTok
 rw [List.all_eq_false]
 exact ⟨t, List.mem_of_getElem? ht, by simp [h]⟩
theorem take_snoc {α : Type} {l : List α} {k : Nat} {t : α} (ht : l[k]? = some t) : l.take (k + 1) = l.take k ++ [t] := by
 rw [List.take_add_one, ht]; rfl
theorem isName_emp : isName emp = false := by
 unfold isName
 rw [isTok_emp]
 rfl
theorem tok_max {l : List Tok} {p : Nat} {f : Bool} (hm : ∀ t ∈ l, t.text.size ≤ maxLen) : (tx l p f).size ≤ maxLen := by
 by_cases h : tx l p f = emp
 ·rw [h]; exact Nat.zero_le _
 ·obtain ⟨t, h1, h2, -⟩ := tx_some h
  rw [h2]
  exact hm t (List.mem_of_getElem? h1)
theorem nameD_le {l : List Tok} {q : RS} (h : q.1 ≤ l.length) : (nameD l q).2.1 ≤ l.length := by
 unfold nameD
 by_cases hi : isName (tx l q.1 q.2) = true
 ·rw [if_pos hi]
  refine tx_lt (l := l) (p := q.1) (f := q.2) fun e => ?_
  rw [e, isName_emp] at hi
  cases hi
 ·rw [if_neg hi]
  exact h
theorem teR_more : More teR := by
 intro X Y hc cs x (h : TER X x cs)
 show TER Y x cs
 induction h with
 | mk k a n s args v f hs hv hf ih =>
  obtain ⟨A, c, h1, h2, h3, h4⟩ := hv
  exact .mk k a n s args v f hs ⟨A, c, h1, h2, h3, fun hp => by
   obtain ⟨b, o, hA, hx⟩ := h4 hp
   exact ⟨b, o, hA, fun i hi j u hu => hc _ _ _ (hx i hi j u hu)⟩⟩ ih
section
variable {B : Nat} {w : World}
/-- a new row of one expression, of two -/
theorem te_one {v : Value} {G : Nat} {t : TypeId} {a : TE} (hB : Blk w G t #[.int .i64 a.kind, .int .i64 a.at_, .int .i64 a.n, .string a.name, v]) (hG : B ≤ G) (hs : a.name.size ≤ maxLen) (hv : Sl teR (low B w) v a.args) : Sl teR (low B w) (.slice (some ⟨G, 0, none⟩) 1 1) [a] := by
 refine ⟨some ⟨G, 0, none⟩, 1, rfl, Nat.le_refl _, ⟨by simp [maxLen], fun h => by cases h⟩, fun _ => ⟨G, 0, rfl, fun i x hx => ?_⟩⟩
 cases i with
 | zero =>
  obtain rfl : a = x := by simpa using hx
  obtain ⟨k', a', n', s', args⟩ := a
  refine ⟨_, TER.shut hs hv, low_to (fun j u hu => hB.cell (i := 0 + 0 * teR.size + j) ?_) hG⟩
  simpa [TE.kind, TE.at_, TE.n, TE.name] using hu
 | succ i => simp at hx
theorem te_two {v u : Value} {G : Nat} {t : TypeId} {a b : TE} (hB : Blk w G t #[.int .i64 a.kind, .int .i64 a.at_, .int .i64 a.n, .string a.name, v, .int .i64 b.kind, .int .i64 b.at_, .int .i64 b.n, .string b.name, u]) (hG : B ≤ G) (hsa : a.name.size ≤ maxLen) (hsb : b.name.size ≤ maxLen)
  (hv : Sl teR (low B w) v a.args) (hu : Sl teR (low B w) u b.args) : Sl teR (low B w) (.slice (some ⟨G, 0, none⟩) 2 2) [a, b] := by
 refine ⟨some ⟨G, 0, none⟩, 2, rfl, Nat.le_refl _, ⟨by simp [maxLen], fun h => by cases h⟩, fun _ => ⟨G, 0, rfl, fun i x hx => ?_⟩⟩
 match i, hx with
 | 0, hx =>
  obtain rfl : a = x := by simpa using hx
  obtain ⟨k', a', n', s', args⟩ := a
  refine ⟨_, TER.shut hsa hv, low_to (fun j u' hu' => hB.cell (i := 0 + 0 * teR.size + j) ?_) hG⟩
  match j, hu' with
  | 0, h | 1, h | 2, h | 3, h | 4, h => simpa [TE.kind, TE.at_, TE.n, TE.name] using h
  | j + 5, h => simp at h
 | 1, hx =>
  obtain rfl : b = x := by simpa using hx
  obtain ⟨k', a', n', s', args⟩ := b
  refine ⟨_, TER.shut hsb hu, low_to (fun j u' hu' => hB.cell (i := 0 + 1 * teR.size + j) ?_) hG⟩
  match j, hu' with
  | 0, h | 1, h | 2, h | 3, h | 4, h => simpa [teR, TE.kind, TE.at_, TE.n, TE.name] using h
  | j + 5, h => simp at h
 | i + 2, hx => simp at hx
end
/-- the operators differ -/
theorem op_ne : ∀ i j : Fin 7, opB i.val = opB j.val → i = j := by decide +kernel
theorem op_emp : ∀ i : Fin 7, opB i.val ≠ emp := by decide +kernel
theorem opD_some {l : List Tok} {r : RS} {i : Nat} (h : opD l r = some i) : i < 7 ∧ tx l r.1 r.2 = opB i := by
 unfold opD at h
 exact ⟨List.mem_range.1 (List.mem_of_find?_eq_some h), by have := List.find?_some h; simpa using this⟩
theorem opD_yes {l : List Tok} {r : RS} {i : Nat} (hi : i < 7) (h : tx l r.1 r.2 = opB i) : opD l r = some i := by
 cases ho : opD l r with
 | none =>
  unfold opD at ho
  rw [List.find?_eq_none] at ho
  have := ho i (List.mem_range.2 hi)
  rw [h] at this
  simp at this
 | some j =>
  obtain ⟨h1, h2⟩ := opD_some ho
  have := op_ne ⟨i, hi⟩ ⟨j, h1⟩ (h.symm.trans h2)
  rw [Fin.mk.injEq] at this
  rw [this]
/-- the kind found among the first operators -/
def opK (o : Option Nat) (k : Nat) : Int := match o with
 | some i => if i < k then 4 + (i : Int) else 0
 | none => 0
theorem opK_end {l : List Tok} {r : RS} : opK (opD l r) 7 = match opD l r with
  | none => 0
  | some i => 4 + (i : Int) := by
 cases h : opD l r with
 | none => rfl
 | some i =>
  unfold opK
  simp only []
  exact if_pos (opD_some h).1
theorem ops_cell {w : World} {G : Nat} {t : TypeId} (h : Blk w G t (opsL.map Value.string).toArray) {k : Nat} (hk : k < 7) : w.cell? ⟨G, k, none⟩ = some (.string (opB k)) := by
 refine Blk.cell h ?_
 unfold opB
 rw [List.getElem?_toArray, List.getElem?_map, List.getD_eq_getElem?_getD]
 have : k < opsL.length := hk
 rw [List.getElem?_eq_getElem this]
 rfl
section
variable {l : List Tok} {E d p : Nat} {f : Bool}
theorem exprD_deep (h : tx l p f = lparB) : exprD l E 0 (p, f) = (.mk 1 (place l E p) 0 emp [], (p, true)) := by
 unfold exprD
 rw [if_pos h]
theorem exprD_dash (h1 : tx l p f ≠ lparB) (h2 : tx l p f = dashB) : exprD l E d (p, f) = (.mk 1 (place l E p) (-(numD l (failD (decide (tx l (needD l dashB (p, f)).1 (needD l dashB (p, f)).2 = zeroB)) (needD l dashB (p, f)))).1) emp [], (numD l (failD (decide (tx l (needD l dashB (p, f)).1 (needD l dashB (p, f)).2 = zeroB)) (needD l dashB (p, f)))).2) := by
 unfold exprD
 rw [if_neg h1, if_pos h2]
theorem exprD_num (h1 : tx l p f ≠ lparB) (h2 : tx l p f ≠ dashB) (h3 : digD (tx l p f) = true) : exprD l E d (p, f) = (.mk 1 (place l E p) (numD l (p, f)).1 emp [], (numD l (p, f)).2) := by
 unfold exprD
 rw [if_neg h1, if_neg h2, if_pos h3]
theorem exprD_name (h1 : tx l p f ≠ lparB) (h2 : tx l p f ≠ dashB) (h3 : digD (tx l p f) = false) (h4 : tx l (nameD l (p, f)).2.1 (nameD l (p, f)).2.2 ≠ lsqB) : exprD l E d (p, f) = (.mk 2 (place l E p) 0 (nameD l (p, f)).1 [], (nameD l (p, f)).2) := by
 unfold exprD
 rw [if_neg h1, if_neg h2, if_neg (by rw [h3]; decide)]
 simp only []
 rw [if_neg h4]
theorem exprD_celldeep (h1 : tx l p f ≠ lparB) (h2 : tx l p f ≠ dashB) (h3 : digD (tx l p f) = false) (h4 : tx l (nameD l (p, f)).2.1 (nameD l (p, f)).2.2 = lsqB) : exprD l E 0 (p, f) = (.mk 2 (place l E p) 0 (nameD l (p, f)).1 [], ((nameD l (p, f)).2.1, true)) := by
 unfold exprD
 rw [if_neg h1, if_neg h2, if_neg (by rw [h3]; decide)]
 simp only []
 rw [if_pos h4]
theorem exprD_cell (h1 : tx l p f ≠ lparB) (h2 : tx l p f ≠ dashB) (h3 : digD (tx l p f) = false) (h4 : tx l (nameD l (p, f)).2.1 (nameD l (p, f)).2.2 = lsqB) : exprD l E (d + 1) (p, f) = (.mk 3 (place l E p) 0 (nameD l (p, f)).1 [(exprD l E d (needD l lsqB (nameD l (p, f)).2)).1], needD l rsqB (exprD l E d (needD l lsqB (nameD l (p, f)).2)).2) := by
 conv => lhs; unfold exprD
 rw [if_neg h1, if_neg h2, if_neg (by rw [h3]; decide)]
 simp only []
 rw [if_pos h4]
/-- behind an operator -/
def opS (l : List Tok) (a : RS) : RS := match opD l a with
 | none => (a.1, true)
 | some i => needD l (opB i) a
theorem exprD_pair (h : tx l p f = lparB) : exprD l E (d + 1) (p, f) = (.mk (opK (opD l (exprD l E d (needD l lparB (p, f))).2) 7) (place l E p) 0 emp [(exprD l E d (needD l lparB (p, f))).1, (exprD l E d (opS l (exprD l E d (needD l lparB (p, f))).2)).1], needD l rparB (exprD l E d (opS l (exprD l E d (needD l lparB (p, f))).2)).2) := by
 conv => lhs; unfold exprD
 rw [if_pos h, opK_end]
 rfl
end
/-- it stays within the tokens -/
theorem failD_le {l : List Tok} {c : Bool} {q : RS} (h : q.1 ≤ l.length) : (failD c q).1 ≤ l.length := by
 unfold failD
 split
 ·exact h
 ·exact h
theorem opS_le {l : List Tok} {q : RS} (h : q.1 ≤ l.length) : (opS l q).1 ≤ l.length := by
 unfold opS
 cases ho : opD l q with
 | none => exact h
 | some i => exact needD_le (op_emp ⟨i, (opD_some ho).1⟩) h
theorem exprD_le {l : List Tok} {E : Nat} (hok : ∀ t ∈ l, TokOk t) : ∀ (d : Nat) (q : RS), q.1 ≤ l.length → (exprD l E d q).2.1 ≤ l.length
 | d, (p, f), hq => by
  by_cases h1 : tx l p f = lparB
  ·cases d with
   | zero => rw [exprD_deep h1]; exact hq
   | succ d =>
    rw [exprD_pair h1]
    exact needD_le (by decide) (exprD_le hok d _ (opS_le (exprD_le hok d _ (needD_le (by decide) hq))))
  ·by_cases h2 : tx l p f = dashB
   ·rw [exprD_dash h1 h2]
    exact (numD_le hok (failD_le (needD_le (by decide) hq))).1
   ·by_cases h3 : digD (tx l p f) = true
    ·rw [exprD_num h1 h2 h3]
     exact (numD_le hok hq).1
    ·have h3 : digD (tx l p f) = false := by simpa using h3
     by_cases h4 : tx l (nameD l (p, f)).2.1 (nameD l (p, f)).2.2 = lsqB
     ·cases d with
      | zero => rw [exprD_celldeep h1 h2 h3 h4]; exact nameD_le hq
      | succ d =>
       rw [exprD_cell h1 h2 h3 h4]
       exact needD_le (by decide) (exprD_le hok d _ (needD_le (by decide) (nameD_le hq)))
     ·rw [exprD_name h1 h2 h3 h4]
      exact nameD_le hq
end Go.Proofs.YtmfjlcpjemccmaaGreatDoor
