/- Tokens in plain words: what a text is scanned to, what tokens are joined to. Each lemma states its own conditions. -/
import Derived.Test.YtmfjlcpjemccmaaGreatDoorTts01
namespace Go.Proofs.YtmfjlcpjemccmaaGreatDoor
open Go.RowKit
structure Tok where
 kind : Int
 at_ : Int
 text : ByteArray
deriving DecidableEq
def isL (b : Nat) : Bool := decide (97 ≤ b) && decide (b ≤ 122)
def isD (b : Nat) : Bool := decide (48 ≤ b) && decide (b ≤ 57)
def isLD (b : Nat) : Bool := isL b || isD b
def isBl (b : Nat) : Bool := b == 32 || b == 9 || b == 10
def signL : List Nat := [123, 125, 40, 41, 91, 93, 59, 44, 61, 43, 45, 42, 47, 37, 60]
def isS (b : Nat) : Bool := signL.contains b
/-- how far a run goes -/
def runTo (p : Nat → Bool) (s : ByteArray) (i : Nat) : Nat :=
 if h : i < s.size then if p s[i].toNat then runTo p s (i + 1) else i else i
termination_by s.size - i
theorem runTo_end {p : Nat → Bool} {s : ByteArray} {i : Nat} (h : ¬ i < s.size) : runTo p s i = i := by rw [runTo, dif_neg h]
theorem runTo_go {p : Nat → Bool} {s : ByteArray} {i : Nat} (h : i < s.size) (hp : p s[i].toNat = true) : runTo p s i = runTo p s (i + 1) := by
 rw [runTo, dif_pos h, if_pos hp]
theorem runTo_stop {p : Nat → Bool} {s : ByteArray} {i : Nat} (h : i < s.size) (hp : p s[i].toNat = false) : runTo p s i = i := by
 rw [runTo, dif_pos h, if_neg (by simp [hp])]
theorem runTo_le (p : Nat → Bool) (s : ByteArray) : ∀ (n i : Nat), s.size - i = n → i ≤ runTo p s i ∧ (i ≤ s.size → runTo p s i ≤ s.size)
 | n, i, hn => by
  by_cases h : i < s.size
  ·cases hp : p s[i].toNat with
   | true =>
    rw [runTo_go h hp]
    have := runTo_le p s (n - 1) (i + 1) (by omega)
    omega
   | false => rw [runTo_stop h hp]; omega
  ·rw [runTo_end h]; omega
termination_by n => n
theorem runTo_ge (p : Nat → Bool) (s : ByteArray) (i : Nat) : i ≤ runTo p s i := (runTo_le p s _ i rfl).1
theorem runTo_size (p : Nat → Bool) (s : ByteArray) {i : Nat} (h : i ≤ s.size) : runTo p s i ≤ s.size := (runTo_le p s _ i rfl).2 h
/-- the token that begins at a place: its kind (0: none does), and how long it is -/
def tokAt (s : ByteArray) (i : Nat) : Nat × Nat :=
 if h : i < s.size then
  if isL s[i].toNat then (1, runTo isLD s (i + 1) - i)
  else if isD s[i].toNat then (2, runTo isD s (i + 1) - i)
  else if s[i].toNat = 61 ∧ ∃ h : i + 1 < s.size, s[i + 1].toNat = 61 then (3, 2)
  else if isS s[i].toNat then (3, 1)
  else (0, 0)
 else (0, 0)
/-- what is wrong with it -/
def tokErr (s : ByteArray) (i : Nat) : Int :=
 if (tokAt s i).1 = 0 then 1
 else if ((tokAt s i).1 = 1 ∧ 12 < (tokAt s i).2) ∨ ((tokAt s i).1 = 2 ∧ 7 < (tokAt s i).2) then 2
 else if (tokAt s i).1 = 2 ∧ 1 < (tokAt s i).2 ∧ ∃ h : i < s.size, s[i].toNat = 48 then 1
 else 0
theorem tokAt_pos {s : ByteArray} {i : Nat} (h : (tokAt s i).1 ≠ 0) : 0 < (tokAt s i).2 ∧ i + (tokAt s i).2 ≤ s.size := by
 unfold tokAt at h ⊢
 by_cases hi : i < s.size
 ·rw [dif_pos hi] at h ⊢
  by_cases h1 : isL s[i].toNat = true
  ·rw [if_pos h1]
   have h2 := runTo_ge isLD s (i + 1)
   have h3 := runTo_size isLD s (i := i + 1) (by omega)
   simp only
   omega
  ·rw [if_neg h1] at h ⊢
   by_cases h1 : isD s[i].toNat = true
   ·rw [if_pos h1]
    have h2 := runTo_ge isD s (i + 1)
    have h3 := runTo_size isD s (i := i + 1) (by omega)
    simp only
    omega
   ·rw [if_neg h1] at h ⊢
    by_cases h2 : s[i].toNat = 61 ∧ ∃ h : i + 1 < s.size, s[i + 1].toNat = 61
    ·rw [if_pos h2]
     obtain ⟨_, h3, _⟩ := h2
     simp only
     omega
    ·rw [if_neg h2] at h ⊢
     by_cases h3 : isS s[i].toNat = true
     ·rw [if_pos h3]
      simp only
      omega
     ·rw [if_neg h3] at h
      simp at h
 ·rw [dif_neg hi] at h
  simp at h
theorem tokErr_kind {s : ByteArray} {i : Nat} (h : tokErr s i = 0) : (tokAt s i).1 ≠ 0 := by
 intro h0
 unfold tokErr at h
 rw [if_pos h0] at h
 omega
/-- the token that stands at a place -/
def tokHere (s : ByteArray) (i : Nat) : Tok := ⟨(tokAt s i).1, i, s.extract i (i + (tokAt s i).2)⟩
def scanG (s : ByteArray) (i : Nat) (note : Bool) (acc : List Tok) : List Tok × Int × Int :=
 if h : i < s.size then
  if note || s[i].toNat == 35 then scanG s (i + 1) (s[i].toNat != 10) acc
  else if isBl s[i].toNat then scanG s (i + 1) false acc
  else if h0 : tokErr s i = 0 then scanG s (i + (tokAt s i).2) false (acc ++ [tokHere s i])
  else ([], i, tokErr s i)
 else (acc, 0, 0)
termination_by s.size - i
decreasing_by
 ·omega
 ·omega
 ·have := tokAt_pos (tokErr_kind h0); omega
theorem scanG_end {s : ByteArray} {i : Nat} {note : Bool} {acc : List Tok} (h : ¬ i < s.size) : scanG s i note acc = (acc, 0, 0) := by rw [scanG, dif_neg h]
theorem scanG_note {s : ByteArray} {i : Nat} {note : Bool} {acc : List Tok} (h : i < s.size) (hn : (note || s[i].toNat == 35) = true) : scanG s i note acc = scanG s (i + 1) (s[i].toNat != 10) acc := by
 rw [scanG, dif_pos h, if_pos hn]
theorem scanG_bl {s : ByteArray} {i : Nat} {note : Bool} {acc : List Tok} (h : i < s.size) (hn : (note || s[i].toNat == 35) = false) (hb : isBl s[i].toNat = true) : scanG s i note acc = scanG s (i + 1) false acc := by
 rw [scanG, dif_pos h, if_neg (by simp [hn]), if_pos hb]
theorem scanG_tok {s : ByteArray} {i : Nat} {note : Bool} {acc : List Tok} (h : i < s.size) (hn : (note || s[i].toNat == 35) = false) (hb : isBl s[i].toNat = false) (h0 : tokErr s i = 0) :
  scanG s i note acc = scanG s (i + (tokAt s i).2) false (acc ++ [tokHere s i]) := by
 rw [scanG, dif_pos h, if_neg (by simp [hn]), if_neg (by simp [hb]), dif_pos h0]
theorem scanG_err {s : ByteArray} {i : Nat} {note : Bool} {acc : List Tok} (h : i < s.size) (hn : (note || s[i].toNat == 35) = false) (hb : isBl s[i].toNat = false) (h0 : tokErr s i ≠ 0) :
  scanG s i note acc = ([], (i : Int), tokErr s i) := by
 rw [scanG, dif_pos h, if_neg (by simp [hn]), if_neg (by simp [hb]), dif_neg h0]
def scanOf (s : ByteArray) : List Tok × Int × Int := if 6000 < s.size then ([], 0, 2) else scanG s 0 false []
/-- where the next token may begin -/
def skipN (s : ByteArray) (i : Nat) (note : Bool) : Nat :=
 if h : i < s.size then
  if note || s[i].toNat == 35 then skipN s (i + 1) (s[i].toNat != 10)
  else if isBl s[i].toNat then skipN s (i + 1) false
  else i
 else i
termination_by s.size - i
theorem skipN_end {s : ByteArray} {i : Nat} {note : Bool} (h : ¬ i < s.size) : skipN s i note = i := by rw [skipN, dif_neg h]
theorem skipN_note {s : ByteArray} {i : Nat} {note : Bool} (h : i < s.size) (hn : (note || s[i].toNat == 35) = true) : skipN s i note = skipN s (i + 1) (s[i].toNat != 10) := by
 rw [skipN, dif_pos h, if_pos hn]
theorem skipN_bl {s : ByteArray} {i : Nat} {note : Bool} (h : i < s.size) (hn : (note || s[i].toNat == 35) = false) (hb : isBl s[i].toNat = true) : skipN s i note = skipN s (i + 1) false := by
 rw [skipN, dif_pos h, if_neg (by simp [hn]), if_pos hb]
theorem skipN_stop {s : ByteArray} {i : Nat} {note : Bool} (h : i < s.size) (hn : (note || s[i].toNat == 35) = false) (hb : isBl s[i].toNat = false) : skipN s i note = i := by
 rw [skipN, dif_pos h, if_neg (by simp [hn]), if_neg (by simp [hb])]
theorem skipN_le (s : ByteArray) : ∀ (n i : Nat) (note : Bool), s.size - i = n → i ≤ skipN s i note ∧ (i ≤ s.size → skipN s i note ≤ s.size)
 | n, i, note, hn => by
  by_cases h : i < s.size
  ·cases h1 : (note || s[i].toNat == 35) with
   | true =>
    rw [skipN_note h h1]
    have := skipN_le s (n - 1) (i + 1) (s[i].toNat != 10) (by omega)
    omega
   | false =>
    cases h2 : isBl s[i].toNat with
    | true =>
     rw [skipN_bl h h1 h2]
     have := skipN_le s (n - 1) (i + 1) false (by omega)
     omega
    | false => rw [skipN_stop h h1 h2]; omega
  ·rw [skipN_end h]; omega
termination_by n => n
theorem skipN_ge (s : ByteArray) (i : Nat) (note : Bool) : i ≤ skipN s i note := (skipN_le s _ i note rfl).1
theorem skipN_size (s : ByteArray) {i : Nat} (note : Bool) (h : i ≤ s.size) : skipN s i note ≤ s.size := (skipN_le s _ i note rfl).2 h
theorem scanG_skip (s : ByteArray) (acc : List Tok) : ∀ (n i : Nat) (note : Bool), s.size - i = n → scanG s i note acc = scanG s (skipN s i note) false acc
 | n, i, note, hn => by
  by_cases h : i < s.size
  ·cases h1 : (note || s[i].toNat == 35) with
   | true => rw [skipN_note h h1, scanG_note h h1]; exact scanG_skip s acc (n - 1) (i + 1) _ (by omega)
   | false =>
    cases h2 : isBl s[i].toNat with
    | true => rw [skipN_bl h h1 h2, scanG_bl h h1 h2]; exact scanG_skip s acc (n - 1) (i + 1) _ (by omega)
    | false =>
     rw [skipN_stop h h1 h2]
     have h3 : note = false := by simp at h1; exact h1.1
     rw [h3]
  ·rw [skipN_end h, scanG_end h, scanG_end h]
termination_by n => n
/-- what stands where skipping ends -/
theorem skipN_at (s : ByteArray) : ∀ (n i : Nat) (note : Bool), s.size - i = n → ∀ h : skipN s i note < s.size, (false || s[skipN s i note].toNat == 35) = false ∧ isBl s[skipN s i note].toNat = false
 | n, i, note, hn => by
  by_cases h : i < s.size
  ·cases h1 : (note || s[i].toNat == 35) with
   | true => rw [skipN_note h h1]; exact skipN_at s (n - 1) (i + 1) _ (by omega)
   | false =>
    cases h2 : isBl s[i].toNat with
    | true => rw [skipN_bl h h1 h2]; exact skipN_at s (n - 1) (i + 1) _ (by omega)
    | false =>
     intro h3
     have h4 := skipN_stop h h1 h2
     simp only [h4]
     simp at h1
     exact ⟨by simpa using h1.2, h2⟩
  ·rw [skipN_end h]; intro h3; omega
termination_by n => n
/-- in a remark, up to its end -/
theorem skipN_nl {s : ByteArray} {i : Nat} (h : i < s.size → s[i]!.toNat = 10) : skipN s i true = skipN s i false := by
 by_cases hi : i < s.size
 ·have h10 : s[i].toNat = 10 := by
   have := h hi
   rwa [getElem!_pos s i hi] at this
  rw [skipN_note hi (by simp), skipN_bl hi (by simp [h10]) (by simp [isBl, h10])]
  simp [h10]
 ·rw [skipN_end hi, skipN_end hi]
end Go.Proofs.YtmfjlcpjemccmaaGreatDoor
