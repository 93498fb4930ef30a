/- What a query is printed to is scanned to its words: plain words. What a query is printed to is scanned to its words, and what they are: plain words. What a query is printed to is parsed to the query: plain words. Each lemma states its own conditions. -/
import Derived.Test.YtegknpffiaeohaaDoorTelB
namespace Go.Proofs.YtegknpffiaeohaaDoor
open Go.RowKit

def key (t : Tok) : Int × ByteArray := (t.kind, t.text)
/-- a text that holds another at a place -/
def Lies (S : ByteArray) (i : Nat) (a : ByteArray) : Prop := ∀ k, k < a.size → bt S (i + k) = bt a k
theorem Lies.app {S : ByteArray} {i : Nat} {a b : ByteArray} (h : Lies S i (a ++ b)) : Lies S i a ∧ Lies S (i + a.size) b := by
  refine ⟨fun k hk => ?_, fun k hk => ?_⟩
  · have := h k (by rw [ByteArray.size_append]; omega)
    rw [bt_append, if_pos hk] at this
    exact this
  · have := h (a.size + k) (by rw [ByteArray.size_append]; omega)
    rw [bt_append, if_neg (by omega), Nat.add_sub_cancel_left, ← Nat.add_assoc] at this
    exact this
theorem Lies.self (S : ByteArray) : Lies S 0 S := fun k _ => by rw [Nat.zero_add]
/-- scanned from a place to another: these tokens -/
def Reads (S : ByteArray) (i j : Nat) (ts : List (Int × ByteArray)) : Prop := ∀ acc, ∃ m, scanG S i false acc = scanG S j false (acc ++ m) ∧ m.map key = ts
theorem Reads.trans {S : ByteArray} {i j k : Nat} {a b : List (Int × ByteArray)} (h1 : Reads S i j a) (h2 : Reads S j k b) : Reads S i k (a ++ b) := fun acc => by
  obtain ⟨m, e1, e2⟩ := h1 acc
  obtain ⟨n, f1, f2⟩ := h2 (acc ++ m)
  exact ⟨m ++ n, by rw [e1, f1, List.append_assoc], by rw [List.map_append, e2, f2]⟩
theorem Reads.blank {S : ByteArray} {i : Nat} (h : bt S i = 32) : Reads S i (i + 1) [] := fun acc => by
  have hlt : i < S.size := bt_lt (by omega)
  rw [bt_in hlt] at h
  exact ⟨[], by rw [List.append_nil]; exact scanG_bl hlt (by simp [h]) (by simp [isBl, h]), rfl⟩
theorem reads_at {S : ByteArray} {i n : Nat} {kind : Nat} {w : ByteArray} (he2 : tokErr S i = 0) (hat : tokAt S i = (kind, n)) (hn : n = w.size) (h : Lies S i w) : Reads S i (i + w.size) [((kind : Int), w)] := fun acc => by
  have hk2 : (tokAt S i).1 ≠ 0 := tokErr_kind he2
  obtain ⟨hi, n1, n2⟩ := tokAt_nobl hk2
  have hp := tokAt_pos hk2
  have h2 : (tokAt S i).2 = w.size := by rw [hat]; exact hn
  have hx : S.extract i (i + (tokAt S i).2) = w := by
    rw [h2]
    apply ba_ext
    · rw [extract_size (by omega)]; omega
    · intro k hk
      rw [extract_size (by omega)] at hk
      rw [bt_extract _ _ _ _ (by omega), if_pos hk]
      exact h k (by omega)
  have e : key (tokHere S i) = ((kind : Int), w) := Prod.ext (by show ((tokAt S i).1 : Int) = kind; rw [hat]) hx
  exact ⟨[tokHere S i], by rw [scanG_tok hi n1 n2 he2, h2], by rw [List.map_cons, e]; rfl⟩
/-- a word, a number: with no letter and no digit behind it -/
theorem Reads.tok {S : ByteArray} {i : Nat} {kind : Nat} {w : ByteArray} (hw : isTok kind w = true) (h : Lies S i w) (he : isLD (bt S (i + w.size)) = false) (h61 : bt w 0 ≠ 61) : Reads S i (i + w.size) [((kind : Int), w)] := by
  obtain ⟨g1, g2, g3, g4⟩ := isTok_iff.1 hw
  have hk := tokErr_kind g4
  have hp := tokAt_pos hk
  have he1 : tokAt S i = tokAt w 0 := tokAt_same (n := w.size) hk g3.symm (fun k hk => by rw [Nat.zero_add]; exact h k hk) he (fun h => h61 h.1)
  have he2 : tokErr S i = 0 := by rw [tokErr_same he1 (by have := h 0 (by omega); simpa using this)]; exact g4
  refine reads_at (n := w.size) he2 ?_ rfl h
  rw [he1]
  exact Prod.ext (by omega) g3
/-- a bracket, a minus: whatever stands behind it -/
theorem Reads.sign {S : ByteArray} {i b : Nat} {w : ByteArray} (hb : b = 40 ∨ b = 41 ∨ b = 45) (hw : w.size = 1) (h0 : bt w 0 = b) (h : Lies S i w) : Reads S i (i + 1) [(3, w)] := by
  have hS : bt S i = b := by have := h 0 (by omega); rw [Nat.add_zero, h0] at this; exact this
  have hat : tokAt S i = (3, 1) := by
    rw [tokAt_bt, hS]
    rcases hb with rfl | rfl | rfl
    · rw [if_neg (by decide), if_neg (by decide), if_neg (by omega), if_pos (by decide)]
    · rw [if_neg (by decide), if_neg (by decide), if_neg (by omega), if_pos (by decide)]
    · rw [if_neg (by decide), if_neg (by decide), if_neg (by omega), if_pos (by decide)]
  have he : tokErr S i = 0 := by rw [tokErr_bt, hat, if_neg (by simp), if_neg (by simp), if_neg (by simp)]
  have := reads_at (kind := 3) (n := 1) he hat hw.symm h
  rw [hw] at this
  exact this

theorem word_tok : ∀ k : Fin 15, 1 ≤ k.val → isTok 1 (wordB k.val) = true ∧ bt (wordB k.val) 0 ≠ 61 := by decide +kernel
theorem any_tok : isTok 1 anyB = true ∧ bt anyB 0 ≠ 61 := by decide +kernel

/-- the bytes of a number -/
theorem decB_bt_last {u : Nat} (h : ¬ u < 10) (k : Nat) : bt (decB u) k = if k < (decB (u / 10)).size then bt (decB (u / 10)) k else bt (decB (u % 10)) (k - (decB (u / 10)).size) := by
  rw [decB_big h, bt_append]
theorem decB_one {u : Nat} (h : u < 10) : (decB u).size = 1 ∧ bt (decB u) 0 = 48 + u := by
  have e1 : u = 0 ∨ u = 1 ∨ u = 2 ∨ u = 3 ∨ u = 4 ∨ u = 5 ∨ u = 6 ∨ u = 7 ∨ u = 8 ∨ u = 9 := by omega
  have e : decB u = ⟨#[UInt8.ofNat (48 + u)]⟩ := by unfold decB; rw [Lib.decDigits_one h]
  rw [e]
  refine ⟨rfl, ?_⟩
  rcases e1 with rfl | rfl | rfl | rfl | rfl | rfl | rfl | rfl | rfl | rfl <;> rfl
/-- digits alone, no naught ahead -/
theorem decB_digits (u : Nat) : 1 ≤ (decB u).size ∧ (∀ k, k < (decB u).size → 48 ≤ bt (decB u) k ∧ bt (decB u) k ≤ 57) ∧ (1 < (decB u).size → bt (decB u) 0 ≠ 48) ∧ (0 < u → bt (decB u) 0 ≠ 48) := by
  induction u using Nat.strongRecOn with
  | _ u ih =>
    by_cases h : u < 10
    · obtain ⟨h1, h2⟩ := decB_one h
      refine ⟨by omega, fun k hk => ?_, fun h => by omega, fun h => by omega⟩
      obtain rfl : k = 0 := by omega
      omega
    · obtain ⟨a1, a2, a3, a4⟩ := ih (u / 10) (by omega)
      obtain ⟨b1, b2⟩ := decB_one (u := u % 10) (by omega)
      have hs : (decB u).size = (decB (u / 10)).size + 1 := by rw [decB_big h, ByteArray.size_append, b1]
      have h0 : bt (decB u) 0 ≠ 48 := by
        rw [decB_bt_last h, if_pos (by omega)]
        exact a4 (by omega)
      refine ⟨by omega, fun k hk => ?_, fun _ => h0, fun _ => h0⟩
      rw [decB_bt_last h]
      by_cases hk2 : k < (decB (u / 10)).size
      · rw [if_pos hk2]; exact a2 k hk2
      · rw [if_neg hk2]
        obtain rfl : k = (decB (u / 10)).size := by omega
        rw [Nat.sub_self, b2]; omega
theorem dec_tok {u : Nat} (h : u < 10000000) : isTok 2 (decB u) = true ∧ bt (decB u) 0 ≠ 61 := by
  obtain ⟨h1, h2, h3, -⟩ := decB_digits u
  have hs := decB_size h
  have h0 := h2 0 (by omega)
  have hat : tokAt (decB u) 0 = (2, (decB u).size) := by
    rw [tokAt_bt, if_neg (by simp only [isL, Bool.and_eq_true, decide_eq_true_eq]; omega), if_pos (by simp only [isD, Bool.and_eq_true, decide_eq_true_eq]; omega)]
    rw [runTo_eq isD_256 (j := (decB u).size) (by rw [bt_out (by omega)]; rfl) _ 1 rfl (by omega) (fun k _ hk => by have := h2 k hk; simp only [isD, Bool.and_eq_true, decide_eq_true_eq]; omega)]
    rfl
  refine ⟨isTok_iff.2 ⟨by omega, by rw [hat]; rfl, by rw [hat], ?_⟩, by omega⟩
  rw [tokErr_bt, hat, if_neg (by simp), if_neg (by simp only; omega), if_neg (fun ⟨_, a, b⟩ => h3 a b)]
end Go.Proofs.YtegknpffiaeohaaDoor

namespace Go.Proofs.YtegknpffiaeohaaDoor
open Go.RowKit

def numT (n : Int) : List (Int × ByteArray) := if n < 0 then [(3, dashB), (2, decB n.natAbs)] else [(2, decB n.toNat)]
def headT (k : Nat) (n : Int) : List (Int × ByteArray) :=
  (1, wordB k) :: (if k = 1 ∨ k = 2 ∨ k = 3 then (if n = -1 then [(1, anyB)] else numT n) else if k = 5 ∨ k = 6 ∨ k = 14 then numT n else [])
def toksK (k : Nat) (n : Int) (l : List (List (Int × ByteArray))) : List (Int × ByteArray) :=
  if k = 8 ∨ k = 9 ∨ k = 13 then (3, lparB) :: (l.getD 0 [] ++ ((1, wordB k) :: (l.getD 1 [] ++ [(3, rparB)]))) else headT k n ++ l.getD 0 []
mutual
/-- the words of a query -/
def Ask.toks : Ask → List (Int × ByteArray)
  | .mk k n args => toksK k.toNat n (toksL args)
def toksL : List Ask → List (List (Int × ByteArray))
  | [] => []
  | x :: xs => x.toks :: toksL xs
end

/-- a text that is scanned to these words, where neither letter nor digit stands behind it -/
def RD (a : ByteArray) (t : List (Int × ByteArray)) : Prop := ∀ S i, Lies S i a → isLD (bt S (i + a.size)) = false → Reads S i (i + a.size) t
theorem lies_sp {S : ByteArray} {i : Nat} {b : ByteArray} (h : Lies S i (spB ++ b)) : bt S i = 32 ∧ Lies S (i + 1) b := by
  obtain ⟨h1, h2⟩ := h.app
  have := h1 0 (by decide)
  rw [Nat.add_zero] at this
  exact ⟨this.trans (by decide), h2⟩
theorem RD.sp {a b : ByteArray} {ta tb : List (Int × ByteArray)} (ha : RD a ta) (hb : RD b tb) : RD (a ++ (spB ++ b)) (ta ++ tb) := fun S i h he => by
  obtain ⟨h1, h2⟩ := h.app
  obtain ⟨h3, h4⟩ := lies_sp h2
  have e : i + (a ++ (spB ++ b)).size = i + a.size + 1 + b.size := by
    rw [ByteArray.size_append, ByteArray.size_append]
    have : spB.size = 1 := rfl
    omega
  rw [e] at he ⊢
  exact (ha S i h1 (by rw [h3]; decide)).trans ((Reads.blank h3).trans (hb S _ h4 he))
theorem RD.word {k : Nat} (h : 1 ≤ k ∧ k ≤ 14) : RD (wordB k) [(1, wordB k)] := fun _ _ hl he => by
  obtain ⟨h1, h2⟩ := word_tok ⟨k, by omega⟩ h.1
  exact Reads.tok (kind := 1) h1 hl he h2
theorem RD.any : RD anyB [(1, anyB)] := fun _ _ hl he => Reads.tok (kind := 1) any_tok.1 hl he any_tok.2
theorem RD.dec {u : Nat} (h : u < 10000000) : RD (decB u) [(2, decB u)] := fun _ _ hl he => Reads.tok (kind := 2) (dec_tok h).1 hl he (dec_tok h).2
theorem RD.num {n : Int} (h : -9999999 ≤ n ∧ n ≤ 9999999) : RD (digB n) (numT n) := by
  by_cases h0 : n < 0
  · obtain ⟨u, rfl⟩ : ∃ u : Nat, n = -(u : Int) := ⟨(-n).toNat, by omega⟩
    rw [digB_neg u (by omega), numT, if_pos h0, Int.natAbs_neg, Int.natAbs_natCast]
    intro S i hl he
    obtain ⟨h1, h2⟩ := hl.app
    have e : i + (⟨#[45]⟩ ++ decB u : ByteArray).size = i + 1 + (decB u).size := by
      rw [ByteArray.size_append]
      have : (⟨#[45]⟩ : ByteArray).size = 1 := rfl
      omega
    rw [e] at he ⊢
    exact (Reads.sign (b := 45) (w := dashB) (by omega) rfl (by decide) h1).trans (RD.dec (by omega) S (i + 1) h2 he)
  · obtain ⟨u, rfl⟩ : ∃ u : Nat, n = u := ⟨n.toNat, by omega⟩
    rw [digB_nat, numT, if_neg h0, Int.toNat_natCast]
    exact RD.dec (by omega)
theorem RD.bin {a b : ByteArray} {ta tb : List (Int × ByteArray)} {k : Nat} (hk : 1 ≤ k ∧ k ≤ 14) (ha : RD a ta) (hb : RD b tb) :
    RD ((((((⟨#[40]⟩ ++ a) ++ spB) ++ wordB k) ++ spB) ++ b) ++ ⟨#[41]⟩) ((3, lparB) :: (ta ++ ((1, wordB k) :: (tb ++ [(3, rparB)])))) := fun S i hl _ => by
  have e : (((((⟨#[40]⟩ ++ a) ++ spB) ++ wordB k) ++ spB) ++ b) ++ ⟨#[41]⟩ = lparB ++ (a ++ (spB ++ (wordB k ++ (spB ++ (b ++ rparB))))) := by
    simp only [ByteArray.append_assoc]; rfl
  rw [e] at hl ⊢
  obtain ⟨h1, hl⟩ := hl.app
  obtain ⟨h2, hl⟩ := hl.app
  obtain ⟨h3, hl⟩ := lies_sp hl
  obtain ⟨h4, hl⟩ := hl.app
  obtain ⟨h5, hl⟩ := lies_sp hl
  obtain ⟨h6, h7⟩ := hl.app
  have l1 : lparB.size = 1 := rfl
  rw [l1] at h2 h3 h4 h5 h6 h7
  have h8 : bt S (i + 1 + a.size + 1 + (wordB k).size + 1 + b.size) = 41 := by
    have := h7 0 (by decide)
    rw [Nat.add_zero] at this
    exact this.trans (by decide)
  have r1 := Reads.sign (b := 40) (w := lparB) (by omega) rfl (by decide) h1
  have r2 := ha S (i + 1) h2 (by rw [h3]; decide)
  have r3 := RD.word hk S _ h4 (by rw [h5]; decide)
  have r4 := hb S _ h6 (by rw [h8]; decide)
  have r5 := Reads.sign (b := 41) (w := rparB) (by omega) rfl (by decide) h7
  have := r1.trans (r2.trans ((Reads.blank h3).trans (r3.trans ((Reads.blank h5).trans (r4.trans r5)))))
  have e2 : i + (lparB ++ (a ++ (spB ++ (wordB k ++ (spB ++ (b ++ rparB)))))).size = i + 1 + a.size + 1 + (wordB k).size + 1 + b.size + 1 := by
    simp only [ByteArray.size_append]
    have s1 : spB.size = 1 := rfl
    have s2 : rparB.size = 1 := rfl
    omega
  rw [e2]
  exact this

theorem toksL_get : ∀ (xs : List Ask), toksL xs = xs.map Ask.toks
  | [] => rfl
  | x :: xs => by rw [toksL, List.map_cons, toksL_get xs]
theorem text_args : ∀ (xs : List Ask), Ask.text.textL xs = xs.map Ask.text
  | [] => rfl
  | x :: xs => by rw [Ask.text.textL, List.map_cons, text_args xs]
theorem small_n {k n : Int} {args : List Ask} (h : (Ask.mk k n args).chk = 0) (hk : k ≠ 1 ∧ k ≠ 2 ∧ k ≠ 3 ∧ k ≠ 5 ∧ k ≠ 6 ∧ k ≠ 14) : n = 0 := by
  have h1 := (Ask.chk_zero h).2.2.1
  obtain ⟨h2, h3⟩ := inLeast k hk
  omega
/-- WHAT A QUERY IS PRINTED TO IS SCANNED TO ITS WORDS -/
theorem text_reads : ∀ q : Ask, q.chk = 0 → RD q.text q.toks :=
  Ask.ind fun k n args ih h => by
    have hn : -9999999 ≤ n ∧ n ≤ 9999999 := chk_n h
    obtain ⟨hk, hlen, -, hall⟩ := Ask.chk_zero h
    obtain ⟨k, rfl⟩ : ∃ j : Nat, k = j := ⟨k.toNat, by omega⟩
    rw [Ask.text, Ask.toks, toksL_get, text_args, Int.toNat_natCast]
    by_cases h6 : k ≤ 6
    · have ha : arity (k : Int) = 0 := if_pos (by omega)
      obtain rfl : args = [] := List.eq_nil_of_length_eq_zero (by omega)
      simp only [List.map_nil]
      rw [toksK, if_neg (by omega), headT]
      simp only [List.getD_nil, List.append_nil]
      by_cases h3 : k ≤ 3
      · rw [if_pos (by omega)]
        by_cases hm : n = -1
        · subst hm
          have e : spAnyB = spB ++ anyB := by decide
          rw [textD_any k (by omega), if_pos rfl, e]
          exact (RD.word (by omega)).sp RD.any
        · rw [textD_num k n (.inl ⟨by omega, hm⟩), if_neg hm]
          exact (RD.word (by omega)).sp (RD.num hn)
      · rw [if_neg (by omega)]
        by_cases h4 : k = 4
        · subst h4
          rw [if_neg (by omega)]
          have := textD_four n
          rw [show ((4 : Nat) : Int) = 4 from rfl, this]
          exact RD.word (by omega)
        · rw [textD_num k n (.inr (by omega)), if_pos (by omega)]
          exact (RD.word (by omega)).sp (RD.num hn)
    · by_cases h2 : k = 8 ∨ k = 9 ∨ k = 13
      · have ha : arity (k : Int) = 2 := by rcases h2 with rfl | rfl | rfl <;> rfl
        match args, hlen, ih, hall with
        | [x, y], _, ih, hall =>
          rw [toksK, if_pos h2]
          simp only [List.map_cons, List.map_nil, List.getD_cons_zero, List.getD_cons_succ]
          rw [textD_bin k n _ _ h2]
          exact RD.bin (by omega) (ih x (by simp) (hall x (by simp))) (ih y (by simp) (hall y (by simp)))
        | [], hl, _, _ => simp [ha] at hl
        | [_], hl, _, _ => simp [ha] at hl
        | _ :: _ :: _ :: _, hl, _, _ => simp [ha] at hl; omega
      · have hu : k = 7 ∨ k = 10 ∨ k = 11 ∨ k = 12 ∨ k = 14 := by omega
        have ha : arity (k : Int) = 1 := by rcases hu with rfl | rfl | rfl | rfl | rfl <;> rfl
        match args, hlen, ih, hall with
        | [x], _, ih, hall =>
          have hx := ih x (by simp) (hall x (by simp))
          rw [toksK, if_neg h2, headT, if_neg (by omega)]
          simp only [List.map_cons, List.map_nil, List.getD_cons_zero]
          by_cases h14 : k = 14
          · subst h14
            rw [if_pos (by omega)]
            have := textD_soon n x.text
            rw [show ((14 : Nat) : Int) = 14 from rfl, this]
            exact ((RD.word (k := 14) (by omega)).sp (RD.num hn)).sp hx
          · rw [if_neg (by omega), textD_un k n _ (by omega)]
            exact (RD.word (by omega)).sp hx
        | [], hl, _, _ => simp [ha] at hl
        | _ :: _ :: _, hl, _, _ => simp [ha] at hl; omega
theorem text_scan {q : Ask} (h : q.chk = 0) (hc : q.cnt ≤ 15) : ∃ m, scanOf q.text = (m, 0, 0) ∧ m.map key = q.toks := by
  have hs := text_size q h
  obtain ⟨m, e1, e2⟩ := text_reads q h q.text 0 (Lies.self _) (by rw [Nat.zero_add, bt_out (by omega)]; rfl) []
  refine ⟨m, ?_, e2⟩
  unfold scanOf
  rw [if_neg (by omega), e1, Nat.zero_add, scanG_end (by omega), List.nil_append]
end Go.Proofs.YtegknpffiaeohaaDoor

namespace Go.Proofs.YtegknpffiaeohaaDoor
open Go.RowKit

/-- tokens that stand so -/
def At (l : List Tok) (p : Nat) (ts : List (Int × ByteArray)) : Prop := ∀ j x, ts[j]? = some x → (l[p + j]?).map key = some x
theorem At.app {l : List Tok} {p : Nat} {a b : List (Int × ByteArray)} (h : At l p (a ++ b)) : At l p a ∧ At l (p + a.length) b := by
  refine ⟨fun j x hx => h j x ?_, fun j x hx => ?_⟩
  · have hj := (List.getElem?_eq_some_iff.1 hx).1
    rw [List.getElem?_append_left hj]; exact hx
  · have := h (a.length + j) x (by rw [List.getElem?_append_right (by omega), Nat.add_sub_cancel_left]; exact hx)
    rw [Nat.add_assoc]; exact this
theorem At.cons {l : List Tok} {p : Nat} {x : Int × ByteArray} {ts : List (Int × ByteArray)} (h : At l p (x :: ts)) : (∃ t, l[p]? = some t ∧ t.kind = x.1 ∧ t.text = x.2) ∧ At l (p + 1) ts := by
  have h' : At l p ([x] ++ ts) := h
  obtain ⟨h1, h2⟩ := h'.app
  refine ⟨?_, h2⟩
  have := h1 0 x rfl
  rw [Nat.add_zero] at this
  cases ht : l[p]? with
  | none => rw [ht] at this; cases this
  | some t =>
    rw [ht] at this
    have e : key t = x := Option.some.inj this
    exact ⟨t, rfl, by rw [← e]; rfl, by rw [← e]; rfl⟩
theorem At.tk {l : List Tok} {p : Nat} {x : Int × ByteArray} {ts : List (Int × ByteArray)} (h : At l p (x :: ts)) (s : ByteArray) : tk l p s = decide (x.2 = s) := by
  obtain ⟨⟨t, h1, _, h3⟩, _⟩ := h.cons
  rw [tk_some h1, h3]

theorem foldl_dec (u : Nat) : (Lib.decDigits u).foldl (fun (n : Int) b => 10 * n + (b.toNat : Int) - 48) 0 = u := by
  induction u using Nat.strongRecOn with
  | _ u ih =>
    by_cases h : u < 10
    · have e1 : u = 0 ∨ u = 1 ∨ u = 2 ∨ u = 3 ∨ u = 4 ∨ u = 5 ∨ u = 6 ∨ u = 7 ∨ u = 8 ∨ u = 9 := by omega
      rw [Lib.decDigits_one h]
      rcases e1 with rfl | rfl | rfl | rfl | rfl | rfl | rfl | rfl | rfl | rfl <;> rfl
    · rw [Lib.decDigits, dif_neg h, List.foldl_append, ih (u / 10) (by omega)]
      have e2 : (UInt8.ofNat (48 + u % 10)).toNat = 48 + u % 10 := by
        rw [UInt8.toNat_ofNat']
        omega
      simp only [List.foldl_cons, List.foldl_nil, e2]
      omega
theorem numB_dec (u : Nat) : numB (decB u) = u := foldl_dec u
theorem dec_ne {u : Nat} {s : ByteArray} (h : bt s 0 < 48 ∨ 57 < bt s 0) : decB u ≠ s := fun e => by
  obtain ⟨h1, h2, -⟩ := decB_digits u
  have := h2 0 (by omega)
  rw [e] at this
  omega
theorem dec_zero {u : Nat} (h : 0 < u) : decB u ≠ zeroB := fun e => by
  have := (decB_digits u).2.2.2 h
  rw [e] at this
  exact this (by decide)
/-- a number without a sign -/
theorem kP_nat {l : List Tok} {p u : Nat} {ts : List (Int × ByteArray)} (b : Bool) (h : At l p ((2, decB u) :: ts)) : kP l b p = .ok (u : Int) (p + 1) := by
  have hm : minus l b p = false := by
    unfold minus
    rw [h.tk, decide_eq_false (dec_ne (.inl (by decide))), Bool.and_false]
  obtain ⟨⟨t, h1, h2, h3⟩, _⟩ := h.cons
  unfold kP
  rw [hm, if_neg (by decide)]
  unfold numP
  rw [h1]
  simp only [h2, h3]
  simp [numB_dec]
theorem kP_num {l : List Tok} {p : Nat} {n : Int} {ts : List (Int × ByteArray)} (b : Bool) (hb : n < 0 → b = true) (h : At l p (numT n ++ ts)) : kP l b p = .ok n (p + (numT n).length) := by
  unfold numT at h ⊢
  by_cases h0 : n < 0
  · obtain ⟨u, rfl⟩ : ∃ u : Nat, n = -(u : Int) := ⟨(-n).toNat, by omega⟩
    rw [if_pos h0, Int.natAbs_neg, Int.natAbs_natCast] at h ⊢
    rw [hb h0]
    have h' : At l p ((3, dashB) :: (2, decB u) :: ts) := h
    have hm : minus l true p = true := by
      unfold minus
      rw [h'.tk]; rfl
    obtain ⟨⟨t, h1, h2, h3⟩, _⟩ := h'.cons.2.cons
    unfold kP
    rw [hm, if_pos rfl]
    unfold numP
    rw [h1]
    have hz := dec_zero (u := u) (by omega)
    simp only [h2, h3]
    simp [numB_dec, hz]
  · obtain ⟨u, rfl⟩ : ∃ u : Nat, n = u := ⟨n.toNat, by omega⟩
    rw [if_neg h0, Int.toNat_natCast] at h ⊢
    exact kP_nat b h

theorem unK_find : ∀ k : Fin 15, k.val ∈ unK → unK.find? (fun j => decide (wordB k.val = wordB j)) = some k.val := by decide +kernel
theorem binK_find : ∀ k : Fin 15, k.val ∈ binK → binK.find? (fun j => decide (wordB k.val = wordB j)) = some k.val := by decide +kernel
theorem word_lpar : ∀ k : Fin 15, wordB k.val ≠ lparB := by decide +kernel
theorem At.wordP {l : List Tok} {p k : Nat} {ts : List (Int × ByteArray)} {c : Int} (ks : List Nat) (h : At l p ((c, wordB k) :: ts)) : wordP l ks p = ks.find? (fun j => decide (wordB k = wordB j)) := by
  unfold Go.Proofs.YtegknpffiaeohaaDoor.wordP
  congr 1
  funext j
  exact h.tk _

theorem cnt_one (k n : Int) (x : Ask) : (Ask.mk k n [x]).cnt = 1 + x.cnt := by rw [Ask.cnt, Ask.cnt.cntL, Ask.cnt.cntL]; omega
theorem cnt_two (k n : Int) (x y : Ask) : (Ask.mk k n [x, y]).cnt = 1 + (x.cnt + y.cnt) := by rw [Ask.cnt, Ask.cnt.cntL, Ask.cnt.cntL, Ask.cnt.cntL]; omega
theorem cnt_ge (q : Ask) : 1 ≤ q.cnt := by
  obtain ⟨k, n, args⟩ := q
  rw [Ask.cnt]; omega
/-- the head of a query that is no pair -/
theorem nP_head {l : List Tok} {p k : Nat} {n : Int} {ts : List (Int × ByteArray)} (hk : 1 ≤ k ∧ k ≤ 14) (_ : ¬ (k = 8 ∨ k = 9 ∨ k = 13)) (hn : leastN k ≤ n ∧ n ≤ mostN k) (h : At l p (headT k n ++ ts)) :
    nP l k (p + 1) = .ok n (p + (headT k n).length) := by
  rw [headT] at h ⊢
  rw [List.cons_append] at h
  obtain ⟨-, h⟩ := h.cons
  rw [List.length_cons]
  unfold nP
  by_cases h3 : k = 1 ∨ k = 2 ∨ k = 3
  · rw [if_pos h3] at h ⊢
    rw [if_pos h3]
    by_cases hm : n = -1
    · subst hm
      rw [if_pos rfl] at h ⊢
      have ht : tk l (p + 1) anyB = true := by
        have h' : At l (p + 1) ((1, anyB) :: ts) := h
        rw [h'.tk]; exact decide_eq_true rfl
      rw [if_pos ht]
      rfl
    · rw [if_neg hm] at h ⊢
      have h0 : 0 ≤ n := by
        have : leastN (k : Int) = -1 := by unfold leastN; rw [if_pos (by omega)]
        omega
      have ht : tk l (p + 1) anyB = false := by
        unfold numT at h
        rw [if_neg (by omega)] at h
        have h' : At l (p + 1) ((2, decB n.toNat) :: ts) := h
        rw [h'.tk]
        exact decide_eq_false (dec_ne (.inr (by decide)))
      rw [ht, if_neg (by decide), kP_num false (fun h => by omega) h]
      congr 1
      omega
  · rw [if_neg h3] at h ⊢
    rw [if_neg h3]
    by_cases h5 : k = 5 ∨ k = 6
    · have e : (if k = 5 ∨ k = 6 ∨ k = 14 then numT n else []) = numT n := if_pos (by omega)
      rw [e] at h ⊢
      rw [if_pos h5, kP_num true (fun _ => rfl) h]
      congr 1
      omega
    · rw [if_neg h5]
      by_cases h14 : k = 14
      · have e : (if k = 5 ∨ k = 6 ∨ k = 14 then numT n else []) = numT n := if_pos (by omega)
        rw [e] at h ⊢
        have h0 : 0 ≤ n := by
          have : leastN (k : Int) = 0 := by unfold leastN; rw [if_neg (by omega), if_neg (by omega)]
          omega
        rw [if_pos h14, kP_num false (fun h => by omega) h]
        congr 1
        omega
      · have e : (if k = 5 ∨ k = 6 ∨ k = 14 then numT n else []) = [] := if_neg (by omega)
        rw [e, if_neg h14]
        obtain ⟨e1, e2⟩ := inLeast (k : Int) (by omega)
        obtain rfl : n = 0 := by omega
        rfl
theorem head_at {l : List Tok} {p k : Nat} {n : Int} {ts : List (Int × ByteArray)} (h : At l p (headT k n ++ ts)) : ∃ us, At l p ((1, wordB k) :: us) := ⟨_, h⟩

/-- THE WORDS OF A QUERY ARE PARSED TO IT -/
theorem toks_parse (l : List Tok) : ∀ q : Ask, q.chk = 0 → ∀ (p d : Nat), q.cnt ≤ d + 1 → At l p q.toks → askP l d p = .ok q (p + q.toks.length) :=
  Ask.ind fun k n args ih h p d hd hat => by
    obtain ⟨hk, hlen, hn, hall⟩ := Ask.chk_zero h
    obtain ⟨k, rfl⟩ : ∃ j : Nat, k = j := ⟨k.toNat, by omega⟩
    rw [Ask.toks, toksL_get, Int.toNat_natCast] at hat ⊢
    by_cases h2 : k = 8 ∨ k = 9 ∨ k = 13
    · have ha : arity (k : Int) = 2 := by rcases h2 with rfl | rfl | rfl <;> rfl
      match args, hlen, ih, hall, hat, hd with
      | [x, y], _, ih, hall, hat, hd =>
        obtain rfl : n = 0 := small_n h (by omega)
        rw [toksK, if_pos h2] at hat ⊢
        simp only [List.map_cons, List.map_nil, List.getD_cons_zero, List.getD_cons_succ] at hat ⊢
        rw [cnt_two] at hd
        have hx1 := cnt_ge x
        have hy1 := cnt_ge y
        obtain ⟨d, rfl⟩ : ∃ e, d = e + 1 := ⟨d - 1, by omega⟩
        have hl : tk l p lparB = true := by rw [hat.tk]; exact decide_eq_true rfl
        obtain ⟨h3, h4⟩ := hat.cons.2.app
        have hp := ih x (by simp) (hall x (by simp)) (p + 1) d (by omega) h3
        have hw := At.wordP binK h4
        rw [binK_find ⟨k, by omega⟩ (by rcases h2 with rfl | rfl | rfl <;> simp [binK])] at hw
        obtain ⟨h5, h6⟩ := h4.cons.2.app
        have hq := ih y (by simp) (hall y (by simp)) _ d (by omega) h5
        have hr : tk l (p + 1 + x.toks.length + 1 + y.toks.length) rparB = true := by rw [h6.tk]; exact decide_eq_true rfl
        show askStep l (some (askP l d)) p = _
        unfold askStep
        rw [if_pos hl]
        simp only []
        unfold binP
        rw [hp]
        simp only []
        rw [hw]
        simp only []
        rw [hq]
        simp only []
        rw [if_pos hr]
        congr 1
        simp only [List.length_cons, List.length_append, List.length_nil]
        omega
      | [], hl, _, _, _, _ => simp [ha] at hl
      | [_], hl, _, _, _, _ => simp [ha] at hl
      | _ :: _ :: _ :: _, hl, _, _, _, _ => simp [ha] at hl; omega
    · rw [toksK, if_neg h2] at hat ⊢
      have hnp := nP_head (by omega) h2 hn hat
      obtain ⟨us, hh⟩ := head_at hat
      have hl : tk l p lparB = false := by rw [hh.tk]; exact decide_eq_false (word_lpar ⟨k, by omega⟩)
      have hw := At.wordP unK hh
      have hkk : k = 1 ∨ k = 2 ∨ k = 3 ∨ k = 4 ∨ k = 5 ∨ k = 6 ∨ k = 7 ∨ k = 10 ∨ k = 11 ∨ k = 12 ∨ k = 14 := by omega
      rw [unK_find ⟨k, by omega⟩ (by rcases hkk with rfl | rfl | rfl | rfl | rfl | rfl | rfl | rfl | rfl | rfl | rfl <;> simp [unK])] at hw
      have hstep : ∀ rec, askStep l rec p = if un k then (match rec with | none => .fail (p + (headT k n).length) | some f => unP k n f (p + (headT k n).length)) else .ok (.mk k n []) (p + (headT k n).length) := fun rec => by
        unfold askStep
        rw [hl, if_neg (by decide), hw]
        simp only []
        rw [hnp]
        rfl
      by_cases h6 : k ≤ 6
      · have ha : arity (k : Int) = 0 := if_pos (by omega)
        obtain rfl : args = [] := List.eq_nil_of_length_eq_zero (by omega)
        have hu : un k = false := by
          have : k = 1 ∨ k = 2 ∨ k = 3 ∨ k = 4 ∨ k = 5 ∨ k = 6 := by omega
          rcases this with rfl | rfl | rfl | rfl | rfl | rfl <;> rfl
        have e : (headT k n ++ (List.map Ask.toks []).getD 0 []).length = (headT k n).length := by simp
        rw [e]
        cases d with
        | zero => exact (hstep none).trans (by rw [hu]; rfl)
        | succ d => exact (hstep (some (askP l d))).trans (by rw [hu]; rfl)
      · have hu' : k = 7 ∨ k = 10 ∨ k = 11 ∨ k = 12 ∨ k = 14 := by omega
        have ha : arity (k : Int) = 1 := by rcases hu' with rfl | rfl | rfl | rfl | rfl <;> rfl
        have hu : un k = true := by rcases hu' with rfl | rfl | rfl | rfl | rfl <;> rfl
        match args, hlen, ih, hall, hat, hd with
        | [x], _, ih, hall, hat, hd =>
          simp only [List.map_cons, List.map_nil, List.getD_cons_zero] at hat ⊢
          rw [cnt_one] at hd
          have hx1 := cnt_ge x
          obtain ⟨d, rfl⟩ : ∃ e, d = e + 1 := ⟨d - 1, by omega⟩
          have hp := ih x (by simp) (hall x (by simp)) (p + (headT k n).length) d (by omega) hat.app.2
          refine (hstep (some (askP l d))).trans ?_
          rw [hu, if_pos rfl]
          simp only []
          unfold unP
          rw [hp]
          simp only []
          congr 1
          rw [List.length_append]
          omega
        | [], hl, _, _, _, _ => simp [ha] at hl
        | _ :: _ :: _, hl, _, _, _, _ => simp [ha] at hl; omega

/-- WHAT IS PRINTED IS PARSED AS IT WAS -/
theorem print_parse {q : Ask} (h : q.err = 0) : parseQ q.text = (q, 0, 0) := by
  have hc := Ask.err_zero' h
  have hn := err_cnt h
  obtain ⟨m, e1, e2⟩ := text_scan hc hn
  have hlen : m.length = q.toks.length := by rw [← e2, List.length_map]
  have hat : At m 0 q.toks := fun j x hx => by
    rw [← e2, List.getElem?_map] at hx
    rw [Nat.zero_add]; exact hx
  have hp := toks_parse m q hc 0 60 (by omega) hat
  unfold parseQ
  rw [e1]
  simp only [if_true]
  unfold parseT
  rw [hp]
  simp only []
  rw [if_neg (by omega), if_pos h]
/-- what is parsed is right; what is not is nothing -/
theorem parse_right (s : ByteArray) : ((parseQ s).2.2 = 0 ∧ (parseQ s).1.err = 0) ∨ ((parseQ s).2.2 ≠ 0 ∧ (parseQ s).1 = .mk 0 0 []) := by
  unfold parseQ
  split
  · unfold parseT
    split
    · exact .inr ⟨by simp, rfl⟩
    · split
      · exact .inr ⟨by simp, rfl⟩
      · split
        · exact .inl ⟨rfl, by assumption⟩
        · exact .inr ⟨by assumption, rfl⟩
  · exact .inr ⟨by assumption, rfl⟩
end Go.Proofs.YtegknpffiaeohaaDoor
