/- What the scanner finds by the library's functions; where a token lies while it is made. Each lemma states its own conditions. -/
import Derived.Test.YtmfjlcpjemccmaaGreatDoorTts11
import Derived.Lib.Strings
import Derived.Lib.Bytealg
namespace Go.Proofs.YtmfjlcpjemccmaaGreatDoor
open Go.RowKit
theorem idx_all : ∀ b : Fin 256, decide (0 ≤ Lib.indexByte signs.data.toList ((b.val : Int).toNat.toUInt8)) = isS b.val := by decide +kernel
theorem idx_isS (b : Nat) (hb : b < 256) : decide (0 ≤ Lib.indexByte signs.data.toList ((b : Int).toNat.toUInt8)) = isS b := idx_all ⟨b, hb⟩
theorem prefix2 (l : List UInt8) (a b : UInt8) : List.isPrefixOf [a, b] l = (l[0]? == some a && l[1]? == some b) := by
 match l with
 | [] => simp [List.isPrefixOf]
 | [x] => simp [List.isPrefixOf]
 | x :: y :: t =>
  rw [Bool.eq_iff_iff]
  simp [List.isPrefixOf]
  exact ⟨fun ⟨h1, h2⟩ => ⟨h1.symm, h2.symm⟩, fun ⟨h1, h2⟩ => ⟨h1.symm, h2.symm⟩⟩
theorem prefix_eq (s : ByteArray) (p : Nat) : Lib.hasPrefix (s.extract p s.size).data.toList [61, 61] = decide (bt s p = 61 ∧ bt s (p + 1) = 61) := by
 unfold Lib.hasPrefix
 have h61 : ∀ i, ((s.data.toList[i]? : Option UInt8) == some 61) = decide (bt s i = 61) := fun i => by
  rw [bt_list, Bool.eq_iff_iff]
  cases h : s.data.toList[i]? with
  | none => simp
  | some x =>
   simp
   constructor
   ·intro h; rw [h]; rfl
   ·intro h; exact UInt8.toNat_inj.1 h
 rw [prefix2, ByteArray.data_extract, Array.toList_extract]
 have hx : ∀ k, ((s.data.toList.extract p s.size)[k]? : Option UInt8) = s.data.toList[p + k]? := fun k => by
  simp only [List.extract_eq_take_drop, List.getElem?_take, List.getElem?_drop]
  split
  ·rfl
  ·symm
   exact List.getElem?_eq_none (by simp; omega)
 rw [hx, hx, h61, h61]
 simp
theorem Blk.other {w : World} {g b : Nat} {t : TypeId} {cs : Array Value} (h : Blk w g t cs) (hne : b ≠ g) (i : Nat) (v : Value) : Blk (w.setCell ⟨b, i, none⟩ v) g t cs :=
 (heap_setCell_other w _ g v (fun e => hne e.symm)).trans h
theorem grownS_new {w wr : World} {row : Option Nat} {b : Nat} (h : w.grownBy wr row) (hb : w.heap.size ≤ b) (i : Nat) (v : Value) : w.grownBy (wr.setCell ⟨b, i, none⟩ v) row :=
 ⟨h.os, h.tape, h.output, by simpa using h.size, fun k hk hne => (heap_setCell_other wr _ k v (fun e => by simp only at e; omega)).trans (h.block k hk hne)⟩
theorem grownS_al {w wr : World} {row : Option Nat} (h : w.grownBy wr row) (o : Obj) : w.grownBy (wr.alloc o) row :=
 ⟨h.os, h.tape, h.output, by have := h.size; simp; omega, fun k hk hne => (heap_alloc_old wr o (by have := h.size; omega)).trans (h.block k hk hne)⟩
/-- a token that is made: the scanner, the result's place, the token's -/
structure TS (w0 w : World) (g : Nat) (s : ByteArray) (p H K : Nat) (ra rb rc a b c : Value) : Prop where
 sc : Sc w g s p
 r : Blk w H 43 #[ra, rb, rc]
 t : Blk w K 43 #[a, b, c]
 gr : w0.grownBy w (some g)
 hg : g < w0.heap.size
 hH : w0.heap.size ≤ H
 hK : w0.heap.size ≤ K
 hHK : H ≠ K
section
variable {w0 w w' : World} {g : Nat} {s : ByteArray} {p H K : Nat} {ra rb rc a b c : Value}
theorem TS.drN (h : TS w0 w g s p H K ra rb rc a b c) (n : Nat) : TS w0 (w.drewN n) g s p H K ra rb rc a b c :=
 { h with sc := h.sc.drN n, r := h.r.keep ((Bel.rfl_ w).drN n), t := h.t.keep ((Bel.rfl_ w).drN n), gr := grownS_drN h.gr n }
theorem TS.call {q : Nat} (h : TS w0 w g s p H K ra rb rc a b c) (hs : Sc w' g s q) (hg : w.grownBy w' (some g)) : TS w0 w' g s q H K ra rb rc a b c :=
 { h with sc := hs, r := h.r.grown hg (by have := h.hg; have := h.hH; intro e; have := Option.some.inj e; omega), t := h.t.grown hg (by have := h.hg; have := h.hK; intro e; have := Option.some.inj e; omega), gr := h.gr.trans hg }
theorem TS.at_ {q : Nat} {x : Int} (h : TS w0 w g s p H K ra rb rc a b c) (hq : x = q) : TS w0 (w.setCell ⟨g, 1, none⟩ (.int .i64 x)) g s q H K ra rb rc a b c :=
 h.call (h.sc.at_ hq) (grownS_one _ _ _ _)
theorem TS.t0 (h : TS w0 w g s p H K ra rb rc a b c) (v : Value) : TS w0 (w.setCell ⟨K, 0, none⟩ v) g s p H K ra rb rc v b c :=
 { h with sc := Blk.other h.sc (by have := h.hg; have := h.hK; omega) 0 v, r := h.r.other (by have := h.hHK; omega) 0 v, t := h.t.set_ 0 v, gr := grownS_new h.gr h.hK 0 v }
theorem TS.t2 (h : TS w0 w g s p H K ra rb rc a b c) (v : Value) : TS w0 (w.setCell ⟨K, 2, none⟩ v) g s p H K ra rb rc a b v :=
 { h with sc := Blk.other h.sc (by have := h.hg; have := h.hK; omega) 2 v, r := h.r.other (by have := h.hHK; omega) 2 v, t := h.t.set_ 2 v, gr := grownS_new h.gr h.hK 2 v }
theorem TS.r0 (h : TS w0 w g s p H K ra rb rc a b c) (v : Value) : TS w0 (w.setCell ⟨H, 0, none⟩ v) g s p H K v rb rc a b c :=
 { h with sc := Blk.other h.sc (by have := h.hg; have := h.hH; omega) 0 v, r := h.r.set_ 0 v, t := h.t.other h.hHK 0 v, gr := grownS_new h.gr h.hH 0 v }
theorem TS.r1 (h : TS w0 w g s p H K ra rb rc a b c) (v : Value) : TS w0 (w.setCell ⟨H, 1, none⟩ v) g s p H K ra v rc a b c :=
 { h with sc := Blk.other h.sc (by have := h.hg; have := h.hH; omega) 1 v, r := h.r.set_ 1 v, t := h.t.other h.hHK 1 v, gr := grownS_new h.gr h.hH 1 v }
theorem TS.r2 (h : TS w0 w g s p H K ra rb rc a b c) (v : Value) : TS w0 (w.setCell ⟨H, 2, none⟩ v) g s p H K ra rb v a b c :=
 { h with sc := Blk.other h.sc (by have := h.hg; have := h.hH; omega) 2 v, r := h.r.set_ 2 v, t := h.t.other h.hHK 2 v, gr := grownS_new h.gr h.hH 2 v }
end
end Go.Proofs.YtmfjlcpjemccmaaGreatDoor
