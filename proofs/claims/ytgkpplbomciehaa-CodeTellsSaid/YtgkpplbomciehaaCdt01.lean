/- Plain words for memory: what a value reads as in a world, for lists, structs and numbers; nothing here speaks of one program. No conditions beyond those that each lemma states. Each lemma states its own conditions. -/
import Derived.WalkKit
import Derived.ProofKit
import Derived.OwnWalk
import Derived.Deep.Draws
import Derived.Laws.OwnMore
import Derived.Lib.Hide
namespace Go.Proofs.Ytgkpplbomciehaa
open Go.RowKit
theorem Hi_ {p : Prop} (h : p) : Hid p := Lib.hid h
theorem lA {α : Type} {l : List α} {i : Nat} {a : α} : l.toArray.setIfInBounds i a = (l.set i a).toArray := List.setIfInBounds_toArray ..
theorem lB {α : Type} {x y : α} {l : List α} : (x :: l).set 0 y = y :: l := List.set_cons_zero
theorem lC {α : Type} {x y : α} {l : List α} {n : Nat} : (x :: l).set (n + 1) y = x :: l.set n y := List.set_cons_succ
/-- 'below all that there was' -/
abbrev Bel (w w' : World) : Prop := Below w.heap.size w w'
theorem Bel.rfl_ (w : World) : Bel w w := Below.refl _ _
theorem Bel.tr {a b c : World} (h : Bel a b) (k : Bel b c) : Bel a c := Below.trans h (Below.mono k h.size)
theorem Bel.trB {B : Nat} {a b c : World} (h : Below B a b) (k : Bel b c) (hB : B ≤ b.heap.size) : Below B a c := Below.trans h (Below.mono k hB)
theorem Bel.al {a b : World} (h : Bel a b) (o : Obj) : Bel a (b.alloc o) := Below.alloc h h.size o
theorem Bel.dr {a b : World} (h : Bel a b) : Bel a b.drew := Below.drew h
theorem Below.drN {B : Nat} {a b : World} (h : Below B a b) (n : Nat) : Below B a (b.drewN n) := ⟨h.os, h.tape, h.output, h.size, h.block⟩
theorem Bel.drN {a b : World} (h : Bel a b) (n : Nat) : Bel a (b.drewN n) := Below.drN h n
theorem lt_of_cell {w : World} {b o : Nat} {v : Value} (h : w.cell? ⟨b, o, none⟩ = some v) : b < w.heap.size := block_lt_of_cell h
theorem Bel.cell {w w' : World} (h : Bel w w') {b o : Nat} {v : Value} (hc : w.cell? ⟨b, o, none⟩ = some v) : w'.cell? ⟨b, o, none⟩ = some v :=
  (Below.cell h (p := ⟨b, o, none⟩) (lt_of_cell hc)).trans hc
/-- these cells lie there -/
def CellsAt (w : World) (b o : Nat) (cs : List Value) : Prop := ∀ j u, cs[j]? = some u → w.cell? ⟨b, o + j, none⟩ = some u
theorem CellsAt.keep {w w' : World} {b o : Nat} {cs : List Value} (hb : Bel w w') (h : CellsAt w b o cs) : CellsAt w' b o cs := fun j u hu => hb.cell (h j u hu)
/-- how a datum of a type lies in so many cells -/
structure Rep (α : Type) where
  size : Nat
  R : World → List Value → α → Prop
  len : ∀ {w cs x}, R w cs x → cs.length = size
  keep : ∀ {w w' cs x}, Bel w w' → R w cs x → R w' cs x
def Rep.At {α : Type} (r : Rep α) (w : World) (b o : Nat) (x : α) : Prop := ∃ cs, r.R w cs x ∧ CellsAt w b o cs
theorem Rep.At.keep {α : Type} {r : Rep α} {w w' : World} {b o : Nat} {x : α} (hb : Bel w w') (h : r.At w b o x) : r.At w' b o x :=
  let ⟨cs, h1, h2⟩ := h; ⟨cs, r.keep hb h1, h2.keep hb⟩
/-- a slice value that reads as a list -/
def Sl {α : Type} (r : Rep α) (w : World) (v : Value) (xs : List α) : Prop :=
  ∃ A c, v = .slice A xs.length c ∧ xs.length ≤ c ∧ (c ≤ maxLen ∧ (A = none → c = 0)) ∧ (0 < xs.length → ∃ b o, A = some ⟨b, o, none⟩ ∧ ∀ k x, xs[k]? = some x → r.At w b (o + k * r.size) x)
theorem Sl.keep {α : Type} {r : Rep α} {w w' : World} {v : Value} {xs : List α} (hb : Bel w w') (h : Sl r w v xs) : Sl r w' v xs := by
  obtain ⟨A, c, h1, h2, h3, h4⟩ := h
  refine ⟨A, c, h1, h2, h3, fun hp => ?_⟩
  obtain ⟨b, o, hA, hc⟩ := h4 hp
  exact ⟨b, o, hA, fun k x hx => (hc k x hx).keep hb⟩
theorem Sl.nil {α : Type} (r : Rep α) (w : World) (c : Nat) (A : Option Addr) (hc : c ≤ maxLen) (h0 : A = none → c = 0) : Sl r w (.slice A 0 c) ([] : List α) :=
  ⟨A, c, rfl, Nat.zero_le _, ⟨hc, h0⟩, fun h => absurd h (by simp)⟩
theorem Sl.nil_ {α : Type} (r : Rep α) (w : World) : Sl r w (.slice none 0 0) ([] : List α) := Sl.nil r w 0 none (Nat.zero_le _) (fun _ => rfl)
def Rep.slice {α : Type} (r : Rep α) : Rep (List α) where
  size := 1
  R w cs xs := ∃ v, cs = [v] ∧ Sl r w v xs
  len h := by obtain ⟨v, rfl, _⟩ := h; rfl
  keep hb h := by obtain ⟨v, rfl, h2⟩ := h; exact ⟨v, rfl, h2.keep hb⟩
/-- numbers of type int -/
def intR : Rep Int where
  size := 1
  R _ cs x := cs = [.int .i64 x]
  len h := by subst h; rfl
  keep _ h := h
theorem intR.cell {w : World} {b o : Nat} {xs : List Int} (h : ∀ k x, xs[k]? = some x → intR.At w b (o + k * intR.size) x) {k : Nat} {x : Int} (hk : xs[k]? = some x) :
    w.cell? ⟨b, o + k, none⟩ = some (.int .i64 x) := by
  obtain ⟨cs, hc, hcs⟩ := h k x hk
  have e : cs = [.int .i64 x] := hc
  subst e
  have := hcs 0 _ rfl
  simpa [intR] using this
theorem ret_bool {a b : Bool} (h : a = b) : Ending.returned (.bool a) = .returned (.bool b) := by rw [h]
/-- A ROW OF THE CALL's OWN THAT IS READ AS A LIST. -/
theorem Sl.own {α : Type} {r : Rep α} {w : World} {base : Nat} {e : TypeId} {v : Value} {n : Nat} {cells : List Value} {xs : List α} (h : w.ownsRow base e r.size v n cells) (hn : n = xs.length)
    (hR : ∀ k x, xs[k]? = some x → r.R w ((cells.drop (k * r.size)).take r.size) x) : Sl r w v xs := by
  subst hn
  rcases h.2 with ⟨rfl, h0⟩ | ⟨g, cap, cur, rfl, _, hg, hnc, hcm, hcs, ht⟩
  · obtain rfl : xs = [] := List.eq_nil_of_length_eq_zero h0
    exact Sl.nil_ r w
  · refine ⟨_, cap, rfl, hnc, ⟨hcm, fun h => by cases h⟩, fun _ => ⟨g, 0, rfl, fun k x hx => ⟨_, hR k x hx, fun j u hu => ?_⟩⟩⟩
    rw [cell_of_row w g _ cur e (0, 0) hg]
    rw [List.getElem?_take] at hu
    split at hu
    · rw [List.getElem?_drop, ← ht, List.getElem?_take] at hu
      split at hu
      · simpa using hu
      · cases hu
    · cases hu
/-- A PIECE OF A SLICE: xs[i:j]. -/
theorem Sl.cut {α : Type} {r : Rep α} {w : World} {A A' : Option Addr} {c C' i j : Nat} {xs : List α} (hc : xs.length ≤ c) (hm : c ≤ maxLen ∧ (A = none → c = 0))
    (hA : 0 < xs.length → ∃ b o, A = some ⟨b, o, none⟩ ∧ ∀ k x, xs[k]? = some x → r.At w b (o + k * r.size) x) (hj : j ≤ xs.length) (hA' : A' = if c = i then A else A.map (·.add (i * r.size))) (hC : C' = c - i) :
    Sl r w (.slice A' (j - i) C') ((xs.drop i).take (j - i)) := by
  have hlen : ((xs.drop i).take (j - i)).length = j - i := by rw [List.length_take, List.length_drop]; omega
  subst hC
  refine ⟨A', c - i, by rw [hlen], by rw [hlen]; omega, ⟨by have := hm.1; omega, fun h => ?_⟩, fun hp => ?_⟩
  · rw [h] at hA'
    split at hA'
    · omega
    · have : A = none := by
        cases A with
        | none => rfl
        | some x => exact absurd hA' (by simp)
      have := hm.2 this
      omega
  · rw [hlen] at hp
    obtain ⟨b, o, rfl, hcs⟩ := hA (by omega)
    rw [if_neg (by omega)] at hA'
    refine ⟨b, o + i * r.size, ?_, fun k x hx => ?_⟩
    · rw [hA']
      simp only [Option.map_some]
      unfold Addr.add
      split
      · rename_i h0; rw [h0]; rfl
      · rfl
    · rw [List.getElem?_take] at hx
      split at hx
      · rw [List.getElem?_drop] at hx
        have := hcs _ x hx
        rwa [Nat.add_mul, ← Nat.add_assoc] at this
      · cases hx
theorem Sl.own_int {w : World} {base : Nat} {e : TypeId} {v : Value} {n : Nat} {xs : List Int} (h : w.ownsRow base e 1 v n (xs.map (Value.int .i64))) (hn : n = xs.length) : Sl intR w v xs :=
  Sl.own (r := intR) h hn fun k x hx => by
    have hl : k < xs.length := (List.getElem?_eq_some_iff.1 hx).1
    show _ = [_]
    simp only [intR, Nat.mul_one]
    rw [List.drop_eq_getElem_cons (by simpa using hl)]
    simp [(List.getElem?_eq_some_iff.1 hx).2]
end Go.Proofs.Ytgkpplbomciehaa
