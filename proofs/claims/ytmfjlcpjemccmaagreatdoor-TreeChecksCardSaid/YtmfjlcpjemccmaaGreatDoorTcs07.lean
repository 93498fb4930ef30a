/- The document's scanning computes what is scanned. What tokens are that were scanned; what their digits tell; memory that grew. The document's reader: its small steps walked. The document's reader of a number: walked. The document's reader from any state: Need, Number. What reads in a world whose elder blocks are hidden: it stays when those turn. Each lemma states its own conditions. -/
import Derived.Test.YtmfjlcpjemccmaaGreatDoorTcs06
import Derived.Deep.RegionLawGrows
import Derived.Deep.DeepCutAuto
import Derived.Test.YtmfjlcpjemccmaaGreatDoorTcs02
namespace Go.Proofs.YtmfjlcpjemccmaaGreatDoor
open Go.RowKit
theorem tokAt_kind (s : ByteArray) (i : Nat) : (tokAt s i).1 = 0 ∨ (tokAt s i).1 = 1 ∨ (tokAt s i).1 = 2 ∨ (tokAt s i).1 = 3 := by
 rw [tokAt_bt]
 by_cases h1 : isL (bt s i) = true
 ·rw [if_pos h1]; exact .inr (.inl rfl)
 ·rw [if_neg h1]
  by_cases h1 : isD (bt s i) = true
  ·rw [if_pos h1]; exact .inr (.inr (.inl rfl))
  ·rw [if_neg h1]
   by_cases h1 : bt s i = 61 ∧ bt s (i + 1) = 61
   ·rw [if_pos h1]; exact .inr (.inr (.inr rfl))
   ·rw [if_neg h1]
    by_cases h1 : isS (bt s i) = true
    ·rw [if_pos h1]; exact .inr (.inr (.inr rfl))
    ·rw [if_neg h1]; exact .inl rfl
theorem tokenAt_kn (s : ByteArray) (i n : Nat) (k : Int) (w : World) (hs : ok64 s.size) (hi : i < s.size) (hk : ((tokAt s i).1 : Int) = k) (hn : (tokAt s i).2 = n) :
  Calls Tryz.prog 92 #[.string s, .int .i64 i] w fun r w' => r = .returned (.tuple #[.int .i64 k, .int .i64 n]) ∧ w = w' :=
 (tokenAt_ref s i w hs hi).mono fun r w' ⟨h1, h2⟩ => by
  unfold TokRes at h1
  rw [hk, hn] at h1
  exact ⟨h1, h2⟩
theorem elTok : Elem Tryz.prog 37 43 3 32 := Elem.mk_ (z := .agg #[.int .i64 0, .int .i64 0, .string emp]) Tryz.underlying37 (by kernel_rfl) rfl (by decide)
theorem flat_snoc (acc : List Tok) (t : Tok) : (acc ++ [t]).flatMap Tok.cells = acc.flatMap Tok.cells ++ [.int .i64 t.kind, .int .i64 t.at_, .string t.text] := by
 rw [List.flatMap_append, List.flatMap_cons, List.flatMap_nil, List.append_nil]; rfl
def ScanRes (s : ByteArray) (w : World) (r : Ending) (w' : World) : Prop := ∃ v, r = .returned (.tuple #[v, .int .i64 (scanOf s).2.1, .int .i64 (scanOf s).2.2]) ∧ Sl tokR w' v (scanOf s).1 ∧ Bel w w'
theorem lit_true {s : ByteArray} {xs : List UInt8} (h : s = ⟨xs.toArray⟩) : (s.toList == xs) = true := by
 rw [toList_data, h]
 simp
theorem lit_false {s : ByteArray} {xs : List UInt8} (h : s ≠ ⟨xs.toArray⟩) : (s.toList == xs) = false := by
 rw [toList_data, beq_eq_false_iff_ne]
 intro e
 apply h
 cases s
 simp only [ByteArray.mk.injEq]
 exact Array.toList_inj.1 (by simpa using e)
/-- digits, one at least, seven at most -/
def NumOk (s : ByteArray) : Prop := 0 < s.size ∧ s.size ≤ 7 ∧ ∀ b ∈ s.data.toList, 48 ≤ b.toNat ∧ b.toNat ≤ 57
theorem numB_pow : ∀ (l : List UInt8) (a : Int) (c : Nat), (∀ b ∈ l, 48 ≤ b.toNat ∧ b.toNat ≤ 57) → 0 ≤ a → a < ((10 ^ c : Nat) : Int) → 0 ≤ l.foldl (fun n b => 10 * n + (b.toNat : Int) - 48) a ∧ l.foldl (fun n b => 10 * n + (b.toNat : Int) - 48) a < ((10 ^ (c + l.length) : Nat) : Int)
 | [], a, c, _, h0, h1 => ⟨h0, h1⟩
 | b :: l, a, c, h, h0, h1 => by
  have hb := h b (by simp)
  have := numB_pow l (10 * a + (b.toNat : Int) - 48) (c + 1) (fun x hx => h x (by simp [hx])) (by omega) (by rw [Nat.pow_succ]; generalize 10 ^ c = y at *; omega)
  rw [List.foldl_cons, List.length_cons, show c + (l.length + 1) = c + 1 + l.length by omega]
  exact this
theorem NumOk.bound {s : ByteArray} (h : NumOk s) : 0 ≤ numB s ∧ numB s ≤ 9999999 := by
 obtain ⟨h1, h2, h3⟩ := h
 have := numB_pow s.data.toList 0 0 h3 (by omega) (by decide)
 have hl : s.data.toList.length ≤ 7 := by simpa using h2
 have hm : 10 ^ (0 + s.data.toList.length) ≤ 10 ^ 7 := Nat.pow_le_pow_right (by omega) (by omega)
 unfold numB
 have h7 : 10 ^ 7 = 10000000 := by decide
 generalize 10 ^ (0 + s.data.toList.length) = y at *
 omega
/-- numbers are digits; nothing else begins with one -/
def TokOk (t : Tok) : Prop := (t.kind = 2 → NumOk t.text) ∧ 0 < t.text.size ∧ (t.kind ≠ 2 → isD (bt t.text 0) = false)
theorem grownBel {w0 w W : World} {g : Nat} (h0 : Bel w0 w) (hg : w0.heap.size ≤ g) (h : w.grownBy W (some g)) : Bel w0 W :=
 Below.grown h0 h h0.size (fun k hk => by
  have : g = k := Option.some.inj hk
  omega)
theorem isD_range {b : Nat} (h : isD b = true) : 48 ≤ b ∧ b ≤ 57 := by
 unfold isD at h
 simpa using h
theorem here_ok {s : ByteArray} {j : Nat} (h : tokErr s j = 0) : TokOk (tokHere s j) := by
 have hk := tokErr_kind h
 obtain ⟨hp1, hp2⟩ := tokAt_pos hk
 have hsz : (s.extract j (j + (tokAt s j).2)).size = (tokAt s j).2 := by rw [extract_size hp2]; omega
 have hb0 : bt (s.extract j (j + (tokAt s j).2)) 0 = bt s j := by rw [bt_extract _ _ _ _ hp2, if_pos (by omega), Nat.add_zero]
 refine ⟨fun h2 => ?_, by show 0 < (s.extract j (j + (tokAt s j).2)).size; omega, fun h2 => ?_⟩
 ·have h2 : (tokAt s j).1 = 2 := by
   have : ((tokAt s j).1 : Int) = 2 := h2
   omega
  have h7 : (tokAt s j).2 ≤ 7 := by
   unfold tokErr at h
   rw [if_neg hk] at h
   by_cases hb : (tokAt s j).1 = 1 ∧ 12 < (tokAt s j).2 ∨ (tokAt s j).1 = 2 ∧ 7 < (tokAt s j).2
   ·rw [if_pos hb] at h; omega
   ·omega
  refine ⟨by show 0 < (s.extract j (j + (tokAt s j).2)).size; omega, by show (s.extract j (j + (tokAt s j).2)).size ≤ 7; omega, fun b hb => ?_⟩
  obtain ⟨i, hiT, rfl⟩ := List.mem_iff_getElem.1 hb
  have hi : i < (s.extract j (j + (tokAt s j).2)).data.toList.length := hiT
  have hi2 : i < (tokAt s j).2 := by
   have hi' := hi
   rw [Array.length_toList] at hi'
   have : (s.extract j (j + (tokAt s j).2)).data.size = (s.extract j (j + (tokAt s j).2)).size := rfl
   omega
  have hbi : bt (s.extract j (j + (tokAt s j).2)) i = bt s (j + i) := by rw [bt_extract _ _ _ _ hp2, if_pos (by omega)]
  have hbv : bt (s.extract j (j + (tokAt s j).2)) i = ((s.extract j (j + (tokAt s j).2)).data.toList[i]'hi).toNat := by
   rw [bt_list, List.getElem?_eq_getElem hi]
   rfl
  have hd : isD (bt s (j + i)) = true := by
   have he := tokAt_bt s j
   by_cases h1 : isL (bt s j) = true
   ·rw [if_pos h1] at he; rw [he] at h2; simp at h2
   ·rw [if_neg h1] at he
    by_cases h3 : isD (bt s j) = true
    ·rw [if_pos h3] at he
     have hn : (tokAt s j).2 = runTo isD s (j + 1) - j := by rw [he]
     by_cases hi0 : i = 0
     ·rw [hi0, Nat.add_zero]; exact h3
     ·exact (runTo_in (s := s) isD_256 _ (j + 1) rfl).2 (j + i) (by omega) (by omega)
    ·rw [if_neg h3] at he
     by_cases h4 : bt s j = 61 ∧ bt s (j + 1) = 61
     ·rw [if_pos h4] at he; rw [he] at h2; simp at h2
     ·rw [if_neg h4] at he
      by_cases h5 : isS (bt s j) = true
      ·rw [if_pos h5] at he; rw [he] at h2; simp at h2
      ·rw [if_neg h5] at he; rw [he] at h2; simp at h2
  have := isD_range hd
  show 48 ≤ ((s.extract j (j + (tokAt s j).2)).data.toList[i]'hi).toNat ∧ ((s.extract j (j + (tokAt s j).2)).data.toList[i]'hi).toNat ≤ 57
  omega
 ·show isD (bt (s.extract j (j + (tokAt s j).2)) 0) = false
  rw [hb0]
  have h2 : (tokAt s j).1 ≠ 2 := fun e => h2 (by show ((tokAt s j).1 : Int) = 2; omega)
  cases hd : isD (bt s j) with
  | false => rfl
  | true =>
   exfalso
   have he := tokAt_bt s j
   have hr := isD_range hd
   by_cases h1 : isL (bt s j) = true
   ·unfold isL at h1
    simp only [Bool.and_eq_true, decide_eq_true_eq] at h1
    omega
   ·rw [if_neg h1, if_pos hd] at he
    rw [he] at h2
    exact h2 rfl
theorem toks_ok {s : ByteArray} : ∀ (l : List Tok) (i : Nat), Toks s i l → (∀ t ∈ l, TokOk t) ∧ l.length ≤ s.size - i
 | [], _, _ => ⟨by simp, by simp⟩
 | t :: ts, i, ⟨j, hj, he, ht, hr⟩ => by
  obtain ⟨h1, h2⟩ := toks_ok ts _ hr
  obtain ⟨hp1, hp2⟩ := tokAt_pos (tokErr_kind he)
  refine ⟨fun x hx => ?_, by rw [List.length_cons]; omega⟩
  rcases List.mem_cons.1 hx with rfl | hx
  ·rw [ht]; exact here_ok he
  ·exact h1 x hx
theorem scan_ok {s : ByteArray} (h : (scanOf s).2.2 = 0) : (∀ t ∈ (scanOf s).1, TokOk t) ∧ (scanOf s).1.length ≤ 6000 ∧ s.size ≤ 6000 := by
 obtain ⟨h1, h2, -⟩ := scanOf_toks (s := s) (l := (scanOf s).1) (a := (scanOf s).2.1) (by rw [← h])
 obtain ⟨h3, h4⟩ := toks_ok _ _ h2
 exact ⟨h3, by omega, h1⟩
theorem grownS_one (w : World) (b i : Nat) (u : Value) : w.grownBy (w.setCell ⟨b, i, none⟩ u) (some b) :=
 ⟨rfl, rfl, rfl, by simp, fun k _ hk => heap_setCell_other w _ k u (fun e => hk (by rw [e]))⟩
theorem grownS_drN {w wr : World} {r : Option Nat} (h : w.grownBy wr r) (n : Nat) : w.grownBy (wr.drewN n) r := h.trans (((Bel.rfl_ wr).drN n).grown r)
theorem grownS_set {w wr : World} {g : Nat} (h : w.grownBy wr (some g)) (i : Nat) (v : Value) : w.grownBy (wr.setCell ⟨g, i, none⟩ v) (some g) := h.trans (grownS_one wr g i v)
theorem Blk.far_ {w : World} {g R : Nat} {t : TypeId} {cs : Array Value} (h : Blk w g t cs) (hne : g ≠ R) (i : Nat) (u : Value) : Blk (w.setCell ⟨R, i, none⟩ u) g t cs := (heap_setCell_other w ⟨R, i, none⟩ g u hne).trans h
theorem grownNew {w W : World} {g R : Nat} (h : w.grownBy W (some g)) (hR : w.heap.size ≤ R) (i : Nat) (u : Value) : w.grownBy (W.setCell ⟨R, i, none⟩ u) (some g) := by
 have k := (Below.refl R W).setCell (p := ⟨R, i, none⟩) (Nat.le_refl _) u
 exact ⟨k.os.trans h.os, k.tape.trans h.tape, k.output.trans h.output, Nat.le_trans h.size k.size, fun x hx hne => (k.block x (by omega)).trans (h.block x hx hne)⟩
theorem place_some {l : List Tok} {E p : Nat} {t : Tok} (h : l[p]? = some t) : place l E p = t.at_ := by unfold place; rw [h]
theorem place_none {l : List Tok} {E p : Nat} (h : ¬ p < l.length) : place l E p = E := by unfold place; rw [List.getElem?_eq_none (by omega)]
theorem tx_some {l : List Tok} {p : Nat} {f : Bool} (h : tx l p f ≠ emp) : ∃ t, l[p]? = some t ∧ tx l p f = t.text ∧ f = false := by
 unfold tx at h ⊢
 cases f with
 | true => exact absurd rfl h
 | false =>
  cases hx : l[p]? with
  | none => rw [hx] at h; exact absurd rfl h
  | some t => exact ⟨t, rfl, by rw [if_neg (by decide)], rfl⟩
theorem tx_lt {l : List Tok} {p : Nat} {f : Bool} (h : tx l p f ≠ emp) : p < l.length := (List.getElem?_eq_some_iff.1 (tx_some h).choose_spec.1).1
theorem needD_le {l : List Tok} {s : ByteArray} {q : RS} (hs : s ≠ emp) (h : q.1 ≤ l.length) : (needD l s q).1 ≤ l.length := by
 unfold needD
 split
 ·exact h
 ·split
  ·rename_i h2
   have := tx_lt (l := l) (p := q.1) (f := false) (by rw [h2]; exact hs)
   exact this
  ·exact h
theorem digD_some {l : List Tok} {p : Nat} {f : Bool} (hok : ∀ t ∈ l, TokOk t) (h : digD (tx l p f) = true) : ∃ t, l[p]? = some t ∧ tx l p f = t.text ∧ f = false ∧ NumOk t.text := by
 unfold digD at h
 simp only [Bool.and_eq_true, decide_eq_true_eq] at h
 obtain ⟨t, h1, h2, h3⟩ := tx_some h.1
 refine ⟨t, h1, h2, h3, ?_⟩
 have ht := hok t (List.mem_of_getElem? h1)
 refine ht.1 (Decidable.byContradiction fun hk => ?_)
 have := ht.2.2 hk
 rw [← h2, h.2] at this
 cases this
theorem numD_le {l : List Tok} {q : RS} (hok : ∀ t ∈ l, TokOk t) (h : q.1 ≤ l.length) : (numD l q).2.1 ≤ l.length ∧ 0 ≤ (numD l q).1 ∧ (numD l q).1 ≤ 9999999 := by
 unfold numD
 by_cases hd : digD (tx l q.1 q.2) = true
 ·obtain ⟨t, hx, e, hf, ho⟩ := digD_some hok hd
  rw [if_pos hd, e]
  have := (List.getElem?_eq_some_iff.1 hx).1
  exact ⟨this, ho.bound⟩
 ·rw [if_neg hd]
  exact ⟨h, Int.le_refl _, by show (0 : Int) ≤ 9999999; omega⟩
/-- the world with all blocks below a bound hidden -/
def low (B : Nat) (w : World) : World := { w with heap := w.heap.mapIdx fun i o => if i < B then .cells #[] 0 (0, 0) else o }
section
variable {B : Nat} {w w' : World}
theorem low_size (B : Nat) (w : World) : (low B w).heap.size = w.heap.size := by simp [low]
theorem low_at (k : Nat) : (low B w).heap[k]? = w.heap[k]?.map fun o => if k < B then .cells #[] 0 (0, 0) else o := by
 unfold low
 exact Array.getElem?_mapIdx
theorem low_ge {k : Nat} (h : B ≤ k) : (low B w).heap[k]? = w.heap[k]? := by
 rw [low_at]
 cases w.heap[k]? with
 | none => rfl
 | some o => simp only [Option.map_some]; rw [if_neg (by omega)]
theorem low_cell {b o : Nat} {v : Value} (h : (low B w).cell? ⟨b, o, none⟩ = some v) : B ≤ b ∧ w.cell? ⟨b, o, none⟩ = some v := by
 by_cases hb : b < B
 ·unfold World.cell? at h
  simp only [low_at] at h
  cases hw : w.heap[b]? with
  | none => rw [hw] at h; simp at h
  | some ob => rw [hw] at h; simp [hb] at h
 ·exact ⟨by omega, (World.cell?_of_block (low_ge (by dsimp only; omega))).symm.trans h⟩
theorem low_bel (h1 : w'.os = w.os) (h2 : w'.tape = w.tape) (h3 : w'.output = w.output) (h4 : w.heap.size ≤ w'.heap.size) (h5 : ∀ k, B ≤ k → k < w.heap.size → w'.heap[k]? = w.heap[k]?) : Bel (low B w) (low B w') := by
 refine ⟨h1, h2, h3, by rw [low_size, low_size]; exact h4, fun k hk => ?_⟩
 rw [low_size] at hk
 by_cases hb : k < B
 ·rw [low_at, low_at, Array.getElem?_eq_getElem hk, Array.getElem?_eq_getElem (Nat.lt_of_lt_of_le hk h4)]
  simp [hb]
 ·rw [low_ge (by omega), low_ge (by omega)]
  exact h5 k (by omega) hk
theorem low_grown {g : Nat} (h : w.grownBy w' (some g)) (hg : g < B) : Bel (low B w) (low B w') :=
 low_bel h.os h.tape h.output h.size fun k hk hlt => h.block k hlt (fun e => by
  have := Option.some.inj e
  omega)
theorem low_belB (h : Bel w w') : Bel (low B w) (low B w') := low_bel h.os h.tape h.output h.size fun k _ hlt => h.block k hlt
theorem low_set (w : World) {g i : Nat} (v : Value) (hg : g < B) : Bel (low B w) (low B (w.setCell ⟨g, i, none⟩ v)) := by
 have h := (Below.refl g w).setCell (p := ⟨g, i, none⟩) (Nat.le_refl _) v
 exact low_bel h.os h.tape h.output h.size fun k hk _ => heap_setCell_other w ⟨g, i, none⟩ k v (by dsimp only; omega)
end
/-- what reads on when more can be read -/
def More {α : Type} (r : Rep α) : Prop := ∀ {X Y : World}, (∀ b o v, X.cell? ⟨b, o, none⟩ = some v → Y.cell? ⟨b, o, none⟩ = some v) → ∀ {cs x}, r.R X cs x → r.R Y cs x
theorem Sl.more {α : Type} {r : Rep α} (hm : More r) {X Y : World} (hc : ∀ b o v, X.cell? ⟨b, o, none⟩ = some v → Y.cell? ⟨b, o, none⟩ = some v) {v : Value} {xs : List α} (h : Sl r X v xs) : Sl r Y v xs := by
 obtain ⟨A, c, h1, h2, h3, h4⟩ := h
 refine ⟨A, c, h1, h2, h3, fun hp => ?_⟩
 obtain ⟨b, o, hA, hx⟩ := h4 hp
 exact ⟨b, o, hA, fun k x hk => (hx k x hk).imp fun cs ⟨h5, h6⟩ => ⟨hm hc h5, fun j u hu => hc _ _ _ (h6 j u hu)⟩⟩
section
variable {B : Nat} {w w' : World}
theorem low_upc : ∀ b o v, (low B w).cell? ⟨b, o, none⟩ = some v → w.cell? ⟨b, o, none⟩ = some v := fun _ _ _ h => (low_cell h).2
theorem low_monoc {B' : Nat} (hB : B' ≤ B) : ∀ b o v, (low B w).cell? ⟨b, o, none⟩ = some v → (low B' w).cell? ⟨b, o, none⟩ = some v :=
 fun _ _ _ h => (World.cell?_of_block (low_ge (by have := (low_cell h).1; dsimp only; omega))).trans (low_cell h).2
theorem low_up {α : Type} {r : Rep α} (hm : More r) {v : Value} {xs : List α} (h : Sl r (low B w) v xs) : Sl r w v xs := h.more hm low_upc
theorem low_mono {α : Type} {r : Rep α} (hm : More r) {B' : Nat} (hB : B' ≤ B) {v : Value} {xs : List α} (h : Sl r (low B w) v xs) : Sl r (low B' w) v xs := h.more hm (low_monoc hB)
theorem low_to {b o : Nat} {cs : List Value} (h : CellsAt w b o cs) (hb : B ≤ b) : CellsAt (low B w) b o cs := fun j u hu => (World.cell?_of_block (low_ge hb)).trans (h j u hu)
theorem low_blk {G : Nat} {t : TypeId} {cs : Array Value} (h : Blk w G t cs) (hG : B ≤ G) : Blk (low B w) G t cs := (low_ge hG).trans h
theorem low_unb {G : Nat} {t : TypeId} {cs : Array Value} (h : Blk (low B w) G t cs) (hG : B ≤ G) : Blk w G t cs := (low_ge hG).symm.trans h
end
end Go.Proofs.YtmfjlcpjemccmaaGreatDoor
