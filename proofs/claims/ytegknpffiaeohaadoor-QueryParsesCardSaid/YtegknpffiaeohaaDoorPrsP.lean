/- The parser of queries in plain words. Each lemma states its own conditions. -/
import Derived.Test.YtegknpffiaeohaaDoorQryC
import Derived.Test.YtegknpffiaeohaaDoorTokL
namespace Go.Proofs.YtegknpffiaeohaaDoor
open Go.RowKit

/-- the words of kinds -/
def wordsL : List ByteArray := [⟨#[]⟩, ⟨#[115, 116, 101, 112]⟩, ⟨#[119, 114, 105, 116, 101]⟩, ⟨#[99, 97, 108, 108]⟩, ⟨#[112, 114, 105, 110, 116]⟩, ⟨#[108, 101, 115, 115]⟩, ⟨#[115, 97, 109, 101]⟩, ⟨#[110, 111, 116]⟩, ⟨#[97, 110, 100]⟩, ⟨#[111, 114]⟩,
  ⟨#[112, 114, 101, 118]⟩, ⟨#[111, 110, 99, 101]⟩, ⟨#[97, 108, 108]⟩, ⟨#[115, 105, 110, 99, 101]⟩, ⟨#[115, 111, 111, 110]⟩]
def wordB (k : Nat) : ByteArray := wordsL.getD k ⟨#[]⟩
def lparB : ByteArray := ⟨#[40]⟩
def rparB : ByteArray := ⟨#[41]⟩
def dashB : ByteArray := ⟨#[45]⟩
def zeroB : ByteArray := ⟨#[48]⟩
def anyB : ByteArray := ⟨#[97, 110, 121]⟩
/-- is this token just so? -/
def tk (l : List Tok) (p : Nat) (s : ByteArray) : Bool := decide (l[p]?.map Tok.text = some s)
/-- where the next token begins -/
def place (l : List Tok) (E : Nat) (p : Nat) : Int := match l[p]? with
  | some t => t.at_
  | none => E
def numB (s : ByteArray) : Int := s.data.toList.foldl (fun n b => 10 * n + (b.toNat : Int) - 48) 0
/-- something, and where it goes on; or where it can't stand -/
inductive PR (α : Type)
  | ok (x : α) (p : Nat)
  | fail (p : Nat)
def wordP (l : List Tok) (ks : List Nat) (p : Nat) : Option Nat := ks.find? fun k => tk l p (wordB k)
def minus (l : List Tok) (signed : Bool) (p : Nat) : Bool := signed && tk l p dashB
def numP (l : List Tok) (m : Bool) (p : Nat) : PR Int :=
  match l[p]? with
  | none => .fail p
  | some t => if t.kind ≠ 2 ∨ (m = true ∧ t.text = zeroB) then .fail p else .ok (if m then -numB t.text else numB t.text) (p + 1)
def kP (l : List Tok) (signed : Bool) (p : Nat) : PR Int := if minus l signed p then numP l true (p + 1) else numP l false p
def nP (l : List Tok) (k : Nat) (p : Nat) : PR Int :=
  if k = 1 ∨ k = 2 ∨ k = 3 then (if tk l p anyB then .ok (-1) (p + 1) else kP l false p)
  else if k = 5 ∨ k = 6 then kP l true p
  else if k = 14 then kP l false p
  else .ok 0 p
def binK : List Nat := [8, 9, 13]
def unK : List Nat := [1, 2, 3, 4, 5, 6, 7, 10, 11, 12, 14]
def un (k : Nat) : Bool := k == 7 || k == 10 || k == 11 || k == 12 || k == 14
def binP (l : List Tok) (f : Nat → PR Ask) (p : Nat) : PR Ask :=
  match f (p + 1) with
  | .fail x => .fail x
  | .ok a p1 => match wordP l binK p1 with
    | none => .fail p1
    | some k => match f (p1 + 1) with
      | .fail x => .fail x
      | .ok b p2 => if tk l p2 rparB then .ok (.mk k 0 [a, b]) (p2 + 1) else .fail p2
def unP (k : Nat) (n : Int) (f : Nat → PR Ask) (p : Nat) : PR Ask :=
  match f p with
  | .fail x => .fail x
  | .ok a p2 => .ok (.mk k n [a]) p2
def askStep (l : List Tok) (rec : Option (Nat → PR Ask)) (p : Nat) : PR Ask :=
  if tk l p lparB then (match rec with
    | none => .fail p
    | some f => binP l f p)
  else match wordP l unK p with
    | none => .fail p
    | some k => match nP l k (p + 1) with
      | .fail x => .fail x
      | .ok n p1 => if un k then (match rec with
          | none => .fail p1
          | some f => unP k n f p1)
        else .ok (.mk k n []) p1
/-- the query that stands here, in at most so many others -/
def askP (l : List Tok) : Nat → Nat → PR Ask
  | 0, p => askStep l none p
  | d + 1, p => askStep l (some (askP l d)) p
/-- what a text of tokens is parsed to -/
def parseT (l : List Tok) (E : Nat) : Ask × Int × Int :=
  match askP l 60 0 with
  | .fail p => (.mk 0 0 [], place l E p, 1)
  | .ok q p => if p < l.length then (.mk 0 0 [], place l E p, 1) else if q.err = 0 then (q, 0, 0) else (.mk 0 0 [], 0, q.err)
def parseQ (s : ByteArray) : Ask × Int × Int :=
  if (scanOf s).2.2 = 0 then parseT (scanOf s).1 s.size else (.mk 0 0 [], (scanOf s).2.1, (scanOf s).2.2)

theorem tk_none {l : List Tok} {p : Nat} (h : ¬ p < l.length) (s : ByteArray) : tk l p s = false := by
  unfold tk
  rw [List.getElem?_eq_none (by omega)]
  rfl
theorem tk_some {l : List Tok} {p : Nat} {t : Tok} (h : l[p]? = some t) (s : ByteArray) : tk l p s = decide (t.text = s) := by
  unfold tk
  rw [h]
  simp
theorem tk_lt {l : List Tok} {p : Nat} {s : ByteArray} (h : tk l p s = true) : p < l.length := by
  by_cases hp : p < l.length
  · exact hp
  · rw [tk_none hp] at h; cases h
theorem place_some {l : List Tok} {E p : Nat} {t : Tok} (h : l[p]? = some t) : place l E p = t.at_ := by unfold place; rw [h]
theorem place_none {l : List Tok} {E p : Nat} (h : ¬ p < l.length) : place l E p = E := by unfold place; rw [List.getElem?_eq_none (by omega)]

theorem wordP_nil (l : List Tok) (p : Nat) : wordP l [] p = none := rfl
theorem wordP_yes {l : List Tok} {p k : Nat} {ks : List Nat} (h : tk l p (wordB k) = true) : wordP l (k :: ks) p = some k := by unfold wordP; rw [List.find?_cons, h]
theorem wordP_no {l : List Tok} {p k : Nat} {ks : List Nat} (h : tk l p (wordB k) = false) : wordP l (k :: ks) p = wordP l ks p := by unfold wordP; rw [List.find?_cons, h]
theorem wordP_some {l : List Tok} {p k : Nat} {ks : List Nat} (h : wordP l ks p = some k) : k ∈ ks ∧ tk l p (wordB k) = true := ⟨List.mem_of_find?_eq_some h, by have := List.find?_some h; simpa using this⟩

/-- it goes on further on, within the tokens -/
theorem numP_le {l : List Tok} {m : Bool} {p : Nat} (hp : p ≤ l.length) : (∀ x q, numP l m p = .ok x q → q ≤ l.length) ∧ ∀ q, numP l m p = .fail q → q ≤ l.length := by
  unfold numP
  cases h : l[p]? with
  | none => exact ⟨(fun _ _ h => by cases h), (fun _ h => by cases h; exact hp)⟩
  | some t =>
    have hl := (List.getElem?_eq_some_iff.1 h).1
    simp only []
    split
    · exact ⟨(fun _ _ h => by cases h), (fun _ h => by cases h; exact hp)⟩
    · exact ⟨(fun _ _ h => by cases h; omega), (fun _ h => by cases h)⟩
theorem kP_le {l : List Tok} {m : Bool} {p : Nat} (hp : p ≤ l.length) : (∀ x q, kP l m p = .ok x q → q ≤ l.length) ∧ ∀ q, kP l m p = .fail q → q ≤ l.length := by
  unfold kP
  split
  · rename_i h
    refine numP_le ?_
    unfold minus at h
    simp only [Bool.and_eq_true] at h
    have := tk_lt h.2
    omega
  · exact numP_le hp
theorem nP_le {l : List Tok} {k p : Nat} (hp : p ≤ l.length) : (∀ x q, nP l k p = .ok x q → q ≤ l.length) ∧ ∀ q, nP l k p = .fail q → q ≤ l.length := by
  unfold nP
  split
  · split
    · rename_i h
      have := tk_lt h
      exact ⟨(fun _ _ h => by cases h; omega), (fun _ h => by cases h)⟩
    · exact kP_le hp
  · split
    · exact kP_le hp
    · split
      · exact kP_le hp
      · exact ⟨(fun _ _ h => by cases h; exact hp), (fun _ h => by cases h)⟩
/-- answers that stay within so many tokens -/
def Within (n : Nat) (r : PR Ask) : Prop := (∀ x q, r = .ok x q → q ≤ n) ∧ ∀ q, r = .fail q → q ≤ n
theorem Within.fail {n p : Nat} (h : p ≤ n) : Within n (.fail p) := ⟨(fun _ _ e => by cases e), (fun _ e => by cases e; exact h)⟩
theorem Within.ok {n p : Nat} {x : Ask} (h : p ≤ n) : Within n (.ok x p) := ⟨(fun _ _ e => by cases e; exact h), (fun _ e => by cases e)⟩
theorem askStep_le {l : List Tok} {rec : Option (Nat → PR Ask)} (hr : ∀ f, rec = some f → ∀ p, p ≤ l.length → Within l.length (f p)) (p : Nat) (hp : p ≤ l.length) : Within l.length (askStep l rec p) := by
  unfold askStep
  split
  · rename_i h
    have h1 := tk_lt h
    cases rec with
    | none => exact .fail hp
    | some f =>
      unfold binP
      simp only []
      cases h2 : f (p + 1) with
      | fail x => exact .fail ((hr f rfl (p + 1) (by omega)).2 x h2)
      | ok a p1 =>
        have h3 := (hr f rfl (p + 1) (by omega)).1 a p1 h2
        simp only []
        cases h4 : wordP l binK p1 with
        | none => exact .fail h3
        | some k =>
          have h5 := tk_lt (wordP_some h4).2
          simp only []
          cases h6 : f (p1 + 1) with
          | fail x => exact .fail ((hr f rfl (p1 + 1) (by omega)).2 x h6)
          | ok b p2 =>
            have h7 := (hr f rfl (p1 + 1) (by omega)).1 b p2 h6
            simp only []
            split
            · rename_i h8
              have := tk_lt h8
              exact .ok (by omega)
            · exact .fail h7
  · cases h4 : wordP l unK p with
    | none => exact .fail hp
    | some k =>
      have h5 := tk_lt (wordP_some h4).2
      simp only []
      cases h6 : nP l k (p + 1) with
      | fail x => exact .fail ((nP_le (by omega)).2 x h6)
      | ok n p1 =>
        have h7 := (nP_le (by omega)).1 n p1 h6
        simp only []
        split
        · cases rec with
          | none => exact .fail h7
          | some f =>
            simp only []
            unfold unP
            cases h8 : f p1 with
            | fail x => exact .fail ((hr f rfl p1 h7).2 x h8)
            | ok a p2 => exact .ok ((hr f rfl p1 h7).1 a p2 h8)
        · exact .ok h7
theorem askP_le (l : List Tok) : ∀ (d p : Nat), p ≤ l.length → Within l.length (askP l d p)
  | 0, p, hp => askStep_le (fun _ h => by cases h) p hp
  | d + 1, p, hp => askStep_le (fun _ h p' hp' => by cases h; exact askP_le l d p' hp') p hp
end Go.Proofs.YtegknpffiaeohaaDoor
