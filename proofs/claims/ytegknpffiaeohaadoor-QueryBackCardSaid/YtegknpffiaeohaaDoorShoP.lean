/- What a query is printed to, in plain words. Each lemma states its own conditions. -/
import Derived.Test.YtegknpffiaeohaaDoorPrsP
import Derived.Test.YtegknpffiaeohaaDoorShelf
import Derived.Lib.ItoaNum
import Derived.Lib.AppendIntMem
import Derived.WalkSmall
namespace Go.Proofs.YtegknpffiaeohaaDoor
open Go.RowKit

def digB (n : Int) : ByteArray := ⟨(Lib.itoa n).toArray⟩
def blankB : ByteArray := ⟨#[32]⟩
/-- how many parts a query has -/
def Ask.cnt : Ask → Nat
  | .mk _ _ args => 1 + cntL args
where cntL : List Ask → Nat
  | [] => 0
  | x :: xs => x.cnt + cntL xs
def headB (k n : Int) : ByteArray :=
  if k = 1 ∨ k = 2 ∨ k = 3 ∨ k = 5 ∨ k = 6 then (wordB k.toNat ++ blankB) ++ (if k ≤ 3 ∧ n = -1 then anyB else digB n)
  else if k = 14 then (wordB k.toNat ++ blankB) ++ digB n
  else wordB k.toNat
/-- one kind's text, of its Args' texts -/
def textK (k n : Int) (l : List ByteArray) : ByteArray :=
  if k = 4 ∨ k = 1 ∨ k = 2 ∨ k = 3 ∨ k = 5 ∨ k = 6 then headB k n
  else if k = 8 ∨ k = 9 ∨ k = 13 then (((((lparB ++ l.getD 0 ⟨#[]⟩) ++ blankB) ++ wordB k.toNat) ++ blankB) ++ l.getD 1 ⟨#[]⟩) ++ rparB
  else (headB k n ++ blankB) ++ l.getD 0 ⟨#[]⟩
def Ask.text : Ask → ByteArray
  | .mk k n args => textK k n (textL args)
where textL : List Ask → List ByteArray
  | [] => []
  | x :: xs => x.text :: textL xs

theorem textL_get : ∀ (xs : List Ask) (i : Nat) (x : Ask), xs[i]? = some x → (Ask.text.textL xs).getD i ⟨#[]⟩ = x.text
  | [], _, _, h => by simp at h
  | y :: ys, 0, x, h => by
    obtain rfl : y = x := by simpa using h
    rfl
  | y :: ys, i + 1, x, h => by
    rw [Ask.text.textL]
    simpa using textL_get ys i x (by simpa using h)
theorem cntL_mem {x : Ask} : ∀ {xs : List Ask}, x ∈ xs → x.cnt ≤ Ask.cnt.cntL xs
  | [], h => by simp at h
  | y :: ys, h => by
    rw [Ask.cnt.cntL]
    rcases List.mem_cons.1 h with rfl | h
    · omega
    · have := cntL_mem h
      omega
/-- not more parts than enough: it is how many there are -/
theorem sizeL_cnt {xs : List Ask} (h : ∀ x ∈ xs, ∀ m, 0 ≤ m → x.size m ≤ m → x.size m = x.cnt) (hl : ∀ x ∈ xs, ∀ m, 0 ≤ m → 1 ≤ x.size m ∧ x.size m ≤ m + 1) : ∀ (a m : Int), 1 ≤ a → a ≤ m + 1 → sizeL xs a m ≤ m → sizeL xs a m = a + Ask.cnt.cntL xs := by
  induction xs with
  | nil => intro a m _ _ _; rw [sizeL, Ask.cnt.cntL]; omega
  | cons x xs ih =>
    intro a m h1 h2 h3
    rw [sizeL] at h3 ⊢
    rw [Ask.cnt.cntL]
    by_cases hm : m < a
    · rw [if_pos hm] at h3; omega
    · rw [if_neg hm] at h3 ⊢
      obtain ⟨h4, h5⟩ := hl x (by simp) (m - a) (by omega)
      by_cases h6 : x.size (m - a) ≤ m - a
      · have h7 := h x (by simp) (m - a) (by omega) h6
        rw [ih (fun y hy => h y (by simp [hy])) (fun y hy => hl y (by simp [hy])) _ _ (by omega) (by omega) h3, h7]
        omega
      · exfalso
        have h8 : a + x.size (m - a) = m + 1 := by omega
        rw [h8] at h3
        cases xs with
        | nil => rw [sizeL] at h3; omega
        | cons y ys => rw [sizeL, if_pos (by omega)] at h3; omega
theorem size_cnt : ∀ (q : Ask) (m : Int), 0 ≤ m → q.size m ≤ m → q.size m = q.cnt :=
  Ask.ind fun k n args ih m hm h => by
    rw [Ask.size] at h ⊢
    rw [sizeL_cnt ih (fun x _ m hm => Ask.size_le x m hm) 1 m (by omega) (by omega) h, Ask.cnt]
    omega
theorem err_cnt {q : Ask} (h : q.err = 0) : q.cnt ≤ 15 := by
  unfold Ask.err at h
  by_cases h1 : 15 < q.size 15
  · rw [if_pos h1] at h; omega
  · have := size_cnt q 15 (by omega) (by omega)
    omega

theorem nDigits_le {u : Nat} (h : u < 10000000) : Lib.nDigits u ≤ 7 := by
  by_cases h0 : Lib.nDigits u ≤ 7
  · exact h0
  · have h1 : 1 ≤ Lib.nDigits u := Lib.nDigits_pos u
    exfalso
    have : ∀ k u, u < 10 ^ k → Lib.nDigits u ≤ max k 1 := by
      intro k
      induction k with
      | zero => intro u hu; rw [Lib.nDigits_small (by omega)]; omega
      | succ k ih =>
        intro u hu
        by_cases h10 : u < 10
        · rw [Lib.nDigits_small h10]; omega
        · rw [Lib.nDigits_big h10]
          have := ih (u / 10) (by rw [Nat.pow_succ] at hu; omega)
          by_cases hk : k = 0
          · subst hk; rw [Nat.pow_succ] at hu; omega
          · omega
    have := this 7 u h
    omega
theorem digB_size {n : Int} (h : -9999999 ≤ n ∧ n ≤ 9999999) : (digB n).size ≤ 8 := by
  have : (digB n).size = (Lib.itoa n).length := by simp [digB, ByteArray.size]
  rw [this]
  unfold Lib.itoa
  split
  · rw [List.length_cons, Lib.decDigits_length]
    have := nDigits_le (u := n.natAbs) (by omega)
    omega
  · rw [Lib.decDigits_length]
    have := nDigits_le (u := n.toNat) (by omega)
    omega
theorem wordB_size (k : Nat) : (wordB k).size ≤ 5 := by
  by_cases h : k < 15
  · have : ∀ k : Fin 15, (wordB k.val).size ≤ 5 := by decide
    exact this ⟨k, h⟩
  · unfold wordB
    rw [List.getD_eq_getElem?_getD, List.getElem?_eq_none (by simp [wordsL]; omega)]
    decide
theorem headB_size {k n : Int} (h : -9999999 ≤ n ∧ n ≤ 9999999) : (headB k n).size ≤ 14 := by
  have h1 := wordB_size k.toNat
  have h2 := digB_size h
  have h3 : blankB.size = 1 := rfl
  have h4 : anyB.size = 3 := rfl
  unfold headB
  repeat' split
  all_goals try simp only [ByteArray.size_append]
  all_goals omega
theorem chk_n {q : Ask} (h : q.chk = 0) : -9999999 ≤ q.n ∧ q.n ≤ 9999999 := by
  obtain ⟨k, n, args⟩ := q
  obtain ⟨h1, h2, h3, h4⟩ := Ask.chk_zero h
  unfold leastN mostN at h3
  simp only [Ask.n]
  refine ⟨?_, ?_⟩
  · have := h3.1
    split at this
    · omega
    · split at this <;> omega
  · have := h3.2
    split at this
    · omega
    · split at this
      · omega
      · split at this <;> omega
def cntAt (args : List Ask) (i : Nat) : Nat := (args[i]?.map Ask.cnt).getD 0
theorem text_size : ∀ (q : Ask), q.chk = 0 → q.text.size ≤ 30 * q.cnt :=
  Ask.ind fun k n args ih h => by
    have hn := chk_n h
    obtain ⟨h1, h2, -, h4⟩ := Ask.chk_zero h
    have hh := headB_size (k := k) hn
    have hw := wordB_size k.toNat
    have e1 : lparB.size = 1 := rfl
    have e2 : rparB.size = 1 := rfl
    have e3 : blankB.size = 1 := rfl
    have hg : ∀ i, ((Ask.text.textL args).getD i ⟨#[]⟩).size ≤ 30 * cntAt args i := by
      intro i
      cases hx : args[i]? with
      | none =>
        have : (Ask.text.textL args).getD i ⟨#[]⟩ = ⟨#[]⟩ := by
          have hl : ∀ (xs : List Ask), (Ask.text.textL xs).length = xs.length := by
            intro xs
            induction xs with
            | nil => rfl
            | cons y ys ih => rw [Ask.text.textL, List.length_cons, ih, List.length_cons]
          rw [List.getD_eq_getElem?_getD, List.getElem?_eq_none (by rw [hl]; exact List.getElem?_eq_none_iff.1 hx)]
          rfl
        rw [this]
        exact Nat.zero_le _
      | some x =>
        rw [textL_get args i x hx]
        have hm := List.mem_of_getElem? hx
        have e : cntAt args i = x.cnt := by unfold cntAt; rw [hx]; rfl
        rw [e]
        exact ih x hm (h4 x hm)
    have hc : cntAt args 0 + cntAt args 1 ≤ Ask.cnt.cntL args := by
      match args with
      | [] => simp [cntAt]
      | [x] => simp [Ask.cnt.cntL, cntAt]
      | x :: y :: zs => simp [Ask.cnt.cntL, cntAt]
    have g0 := hg 0
    have g1 := hg 1
    rw [Ask.text, Ask.cnt]
    unfold textK
    repeat' split
    all_goals try simp only [ByteArray.size_append]
    all_goals simp only [Ask.n] at hh
    all_goals omega
end Go.Proofs.YtegknpffiaeohaaDoor
