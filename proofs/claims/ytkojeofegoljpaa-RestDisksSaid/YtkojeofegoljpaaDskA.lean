/- Disks: what they read as, what is wrong with them; small functions walked. Each lemma states its own conditions. -/
import Derived.Test.YtkojeofegoljpaaOwn
import Derived.Test.YtkojeofegoljpaaRows
import Derived.Outline
import Derived.Deep.QuietTactic
import Derived.BigQuiet
import Derived.Laws.StructEq
import Derived.WalkLawsBesides
import Derived.WalkSpells
import Derived.Shelf.Abstract
namespace Go.Proofs.Ytkojeofegoljpaa
open Go.RowKit

structure Wr where
  sector : Int
  bytes : ByteArray
deriving DecidableEq
def wrR : Rep Wr where
  size := 2
  R _ cs x := cs = [.int .i64 x.sector, .string x.bytes]
  len h := by subst h; rfl
  keep _ h := h
theorem wrR.cells {w : World} {b o : Nat} {xs : List Wr} (h : ∀ k x, xs[k]? = some x → wrR.At w b (o + k * wrR.size) x) {k : Nat} {x : Wr} (hk : xs[k]? = some x) :
    w.cell? ⟨b, o + k * 2, none⟩ = some (.int .i64 x.sector) ∧ w.cell? ⟨b, o + k * 2 + 1, none⟩ = some (.string x.bytes) := by
  obtain ⟨cs, hc, hcs⟩ := h k x hk
  have e : cs = [.int .i64 x.sector, .string x.bytes] := hc
  subst e
  exact ⟨hcs 0 _ rfl, hcs 1 _ rfl⟩
structure Dk where
  kept : List ByteArray
  written : List Wr
/-- a disk as a value -/
def DkV (w : World) (d : Dk) (val : Value) : Prop := ∃ A1 c1 A2 c2, val = .agg #[.slice A1 d.kept.length c1, .slice A2 d.written.length c2] ∧ Sl strR w (.slice A1 d.kept.length c1) d.kept ∧ Sl wrR w (.slice A2 d.written.length c2) d.written
theorem DkV.keep {w w' : World} (hb : Bel w w') {d : Dk} {val : Value} (h : DkV w d val) : DkV w' d val := by
  obtain ⟨A1, c1, A2, c2, h1, h2, h3⟩ := h
  exact ⟨A1, c1, A2, c2, h1, h2.keep hb, h3.keep hb⟩
/-- no string is longer than there may be one -/
def Dk.ok (d : Dk) : Prop := (∀ s ∈ d.kept, s.size ≤ maxLen) ∧ ∀ x ∈ d.written, x.bytes.size ≤ maxLen

def wErr (n : Nat) : List Wr → Int
  | [] => 0
  | x :: xs => if 0 ≤ x.sector ∧ x.sector < n then if x.bytes.size = 32 then wErr n xs else 1 else 5
def Dk.err (d : Dk) : Int :=
  if 1 ≤ d.kept.length ∧ d.kept.length ≤ 600 then if d.kept.all (·.size == 32) = true then if d.written.length ≤ 600 then wErr d.kept.length d.written else 2 else 1 else 3
theorem wErr_drop {n : Nat} {l : List Wr} {k : Nat} {x : Wr} (hx : l[k]? = some x) : wErr n (l.drop k) = if 0 ≤ x.sector ∧ x.sector < n then if x.bytes.size = 32 then wErr n (l.drop (k + 1)) else 1 else 5 := by
  obtain ⟨hl, rfl⟩ := List.getElem?_eq_some_iff.1 hx
  rw [List.drop_eq_getElem_cons hl, wErr]
theorem wErr_end {n : Nat} {l : List Wr} {k : Nat} (h : l.length ≤ k) : wErr n (l.drop k) = 0 := by
  rw [List.drop_eq_nil_of_le h, wErr]
theorem wErr_zero {n : Nat} {l : List Wr} (h : wErr n l = 0) : ∀ x ∈ l, (0 ≤ x.sector ∧ x.sector < n) ∧ x.bytes.size = 32 := by
  induction l with
  | nil => simp
  | cons y ys ih =>
    rw [wErr] at h
    split at h
    · split at h
      · intro x hx
        rcases List.mem_cons.1 hx with rfl | hx
        · exact ⟨‹_›, ‹_›⟩
        · exact ih h x hx
      · cases h
    · cases h
theorem Dk.err_zero {d : Dk} (h : d.err = 0) : (1 ≤ d.kept.length ∧ d.kept.length ≤ 600) ∧ (∀ s ∈ d.kept, s.size = 32) ∧ d.written.length ≤ 600 ∧ ∀ x ∈ d.written, (0 ≤ x.sector ∧ x.sector < d.kept.length) ∧ x.bytes.size = 32 := by
  unfold Dk.err at h
  split at h
  · split at h
    · split at h
      · rename_i h1 h2 h3
        exact ⟨h1, fun s hs => by simpa using List.all_eq_true.1 h2 s hs, h3, wErr_zero h⟩
      · cases h
    · cases h
  · cases h
theorem alls_take {α : Type} {p : α → Bool} {l : List α} {k : Nat} {x : α} (hx : l[k]? = some x) (h : (l.take k).all p = true) (hp : p x = true) : (l.take (k + 1)).all p = true := by
  rw [List.take_add_one, hx, List.all_append, h]
  simp [hp]
theorem alls_not {α : Type} {p : α → Bool} {l : List α} {k : Nat} {x : α} (hx : l[k]? = some x) (hp : p x = false) : l.all p = false := by
  rw [List.all_eq_false]
  exact ⟨x, List.mem_of_getElem? hx, by simp [hp]⟩

theorem betws_any (n a b : Int) (w : World) :
    Calls Try.prog 43 #[.int .i64 n, .int .i64 a, .int .i64 b] w fun r w' => r = .returned (.bool (decide (a ≤ n ∧ n ≤ b))) ∧ w' = w := by
  go_enter Try.func43, Try.ntmps43
  go_wp2
  all_goals go_ret
  all_goals refine ⟨ret_bool ?_, rfl⟩
  all_goals simp_all
  all_goals omega
theorem bad_any (s : ByteArray) (w : World) (hs : s.size ≤ maxLen) :
    Calls Try.prog 45 #[.string s] w fun r w' => r = .returned (.bool (!(s.size == 32))) ∧ w' = w := by
  have hl : s.size ≤ 9223372036854775807 := by simp only [maxLen] at hs; exact hs
  clear hs
  cases h : s.size == 32 with
  | true =>
    have h2 : s.size = 32 := by simpa using h
    go_enter Try.func45, Try.ntmps45
    go_wp2
    go_ret
    exact ⟨rfl, rfl⟩
  | false =>
    have h2 : ¬ s.size = 32 := by simpa using h
    have h3 : ((s.size : Int) != 32) = true := by simp; omega
    go_enter Try.func45, Try.ntmps45
    go_wp2
    go_ret
    exact ⟨rfl, rfl⟩

set_option maxRecDepth 20000 in
theorem indexBad_any (v : Value) (l : List ByteArray) (w : World) (h : Sl strR w v l) (hs : ∀ s ∈ l, s.size ≤ maxLen) :
    Calls Try.prog 69 #[v, .func (.func 45) #[] #[]] w fun r w' => (∃ k : Int, r = .returned (.int .i64 k) ∧ -1 ≤ k ∧ decide (0 ≤ k) = !(l.all (·.size == 32))) ∧ w' = w := by
  obtain ⟨A, c, rfl, hc, hm, hA⟩ := h
  have hlm : l.length ≤ 9223372036854775807 := by have := hm.1; simp only [maxLen] at this; omega
  have HA := Lib.hid hA; clear hA hc hm
  have HS := Lib.hid hs; clear hs
  go_enter Try.func69, Try.ntmps69
  go_wp2
  go_loopw [8] (fun i wr => ∃ k : Nat, i = .int .i64 k ∧ k ≤ l.length ∧ Hid ((l.take k).all (·.size == 32) = true) ∧ wr = w) (fun i _ => l.length - (intOf i).toNat)
  case atStart => exact ⟨0, rfl, by omega, rfl, rfl⟩
  case round =>
    obtain ⟨k, rfl, hk, HT, rfl⟩ := hrel
    by_cases hlt : k < l.length
    · obtain ⟨s, hx⟩ : ∃ s, l[k]? = some s := ⟨_, List.getElem?_eq_getElem hlt⟩
      obtain ⟨b, o, rfl, hA⟩ := HA.out (by omega)
      have x0 := strR.cell hA hx
      have HX := Lib.hid hx
      have HSS := Lib.hid (HS.out s (List.mem_of_getElem? hx))
      clear hA hx
      go_wp2_with fail
      refine (bad_any s _ HSS.out).mono ?_
      rintro r w' ⟨rfl, rfl⟩
      cases hb : s.size == 32 with
      | true =>
        have HT' : Hid ((l.take (k + 1)).all (·.size == 32) = true) := Lib.hid (alls_take HX.out HT.out hb)
        clear hb
        go_wp2
        go_roundw
        case rel => exact ⟨k + 1, by go_num, by omega, HT', trivial⟩
        case measure => simp [intOf]; omega
      | false =>
        have HF : Hid (l.all (·.size == 32) = false) := Lib.hid (alls_not HX.out hb)
        clear hb
        go_wp2
        go_ret
        exact ⟨⟨k, rfl, by omega, by rw [HF.out]; simp⟩, rfl⟩
    · have HF : Hid (l.all (·.size == 32) = true) := Lib.hid (by have := HT.out; rw [List.take_of_length_le (by omega)] at this; exact this)
      go_wp2
      go_ret
      exact ⟨⟨-1, rfl, by omega, by rw [HF.out]; rfl⟩, rfl⟩
theorem containsBad_any (v : Value) (l : List ByteArray) (w : World) (h : Sl strR w v l) (hs : ∀ s ∈ l, s.size ≤ maxLen) :
    Calls Try.prog 46 #[v, .func (.func 45) #[] #[]] w fun r w' => r = .returned (.bool (!(l.all (·.size == 32)))) ∧ w' = w := by
  have HI := Lib.hid (indexBad_any v l w h hs)
  obtain ⟨A, c, rfl, -⟩ := h
  generalize l.all (·.size == 32) = T at *
  go_enter Try.func46, Try.ntmps46
  go_wp2_with fail
  refine HI.out.mono ?_
  rintro r w' ⟨⟨k, rfl, hk, hT⟩, rfl⟩
  go_wp2
  go_ret
  exact ⟨rfl, rfl⟩

end Go.Proofs.Ytkojeofegoljpaa
