/- Numbers of four bytes, sectors as bytes: plain words. Each lemma states its own conditions. -/
import Derived.Test.YtkojeofegoljpaaDskS
import Derived.Laws.Bits64b
namespace Go.Proofs.Ytkojeofegoljpaa
open Go.RowKit

theorem bits_or_u32_nat (a b : Nat) (ha : a < 4294967296) (hb : b < 4294967296) : bits .or .u32 (a : Int) (b : Int) = ((a ||| b : Nat) : Int) := by
  have hx : a ||| b < 2 ^ 32 := Nat.or_lt_two_pow (by omega) (by omega)
  have h1 : (BitVec.ofInt 32 (a : Int)).toNat = a := by
    rw [BitVec.ofInt_natCast, BitVec.toNat_ofNat]; exact Nat.mod_eq_of_lt (by omega)
  have h2 : (BitVec.ofInt 32 (b : Int)).toNat = b := by
    rw [BitVec.ofInt_natCast, BitVec.toNat_ofNat]; exact Nat.mod_eq_of_lt (by omega)
  show IntKind.u32.wrap ((BitVec.ofInt 32 (a : Int) ||| BitVec.ofInt 32 (b : Int)).toNat : Int) = _
  rw [BitVec.toNat_or, h1, h2, IntKind.wrap_u32]
  omega
theorem or_hi {a c k : Nat} (ha : a < 2 ^ k) : a ||| c * 2 ^ k = a + c * 2 ^ k := by
  rw [Nat.or_comm, ← Nat.shiftLeft_eq, ← Nat.shiftLeft_add_eq_or_of_lt ha, Nat.add_comm]

/-- a number out of four bytes -/
def num4 (a b c d : Nat) : Int := wrap32 ((a + b * 256 + c * 65536 + d * 16777216 : Nat) : Int)
theorem num4_eq {a b c d : Nat} (ha : a < 256) (hb : b < 256) (hc : c < 256) (hd : d < 256) :
    wrap64 (wrap32 (bits .or .u32 (bits .or .u32 (bits .or .u32 ((a : Int) % 4294967296) ((b : Int) % 4294967296 * 256 % 4294967296)) ((c : Int) % 4294967296 * 65536 % 4294967296)) ((d : Int) % 4294967296 * 16777216 % 4294967296))) = num4 a b c d := by
  have e0 : (a : Int) % 4294967296 = (a : Nat) := by omega
  have e1 : (b : Int) % 4294967296 * 256 % 4294967296 = ((b * 2 ^ 8 : Nat) : Int) := by omega
  have e2 : (c : Int) % 4294967296 * 65536 % 4294967296 = ((c * 2 ^ 16 : Nat) : Int) := by omega
  have e3 : (d : Int) % 4294967296 * 16777216 % 4294967296 = ((d * 2 ^ 24 : Nat) : Int) := by omega
  rw [e0, e1, e2, e3, bits_or_u32_nat _ _ (by omega) (by omega), or_hi (k := 8) (by omega), bits_or_u32_nat _ _ (by omega) (by omega), or_hi (k := 16) (by omega), bits_or_u32_nat _ _ (by omega) (by omega), or_hi (k := 24) (by omega)]
  have e4 : a + b * 2 ^ 8 + c * 2 ^ 16 + d * 2 ^ 24 = a + b * 256 + c * 65536 + d * 16777216 := by omega
  rw [e4, num4]
  generalize ((a + b * 256 + c * 65536 + d * 16777216 : Nat) : Int) = m
  have h1 : -2147483648 ≤ wrap32 m ∧ wrap32 m ≤ 2147483647 := by unfold wrap32; omega
  generalize wrap32 m = k at *
  unfold wrap64
  omega

/-- the bytes of a number -/
def word (n : Int) : List Int := [n % 4294967296 % 256, n % 4294967296 / 256 % 256, n % 4294967296 / 65536 % 256, n % 4294967296 / 16777216 % 256]
theorem word_len (n : Int) : (word n).length = 4 := rfl
theorem word_num (n : Int) : num4 (n % 4294967296 % 256).toNat (n % 4294967296 / 256 % 256).toNat (n % 4294967296 / 65536 % 256).toNat (n % 4294967296 / 16777216 % 256).toNat = wrap32 n := by
  unfold num4 wrap32
  omega
def words (l : List Int) : List Int := l.flatMap word
theorem words_cons (n : Int) (l : List Int) : words (n :: l) = word n ++ words l := rfl
theorem words_app (a b : List Int) : words (a ++ b) = words a ++ words b := List.flatMap_append
theorem words_len (l : List Int) : (words l).length = l.length * 4 := by
  induction l with
  | nil => rfl
  | cons n l ih => rw [words_cons, List.length_append, ih, word_len, List.length_cons]; omega

/-- the byte at a place of a string -/
def bt (s : ByteArray) (i : Nat) : Nat := if h : i < s.size then s[i].toNat else 0
theorem bt_lt (s : ByteArray) (i : Nat) : bt s i < 256 := by
  unfold bt
  split
  · exact s[i].toNat_lt
  · omega
theorem bt_eq {s : ByteArray} {i : Nat} (h : i < s.size) : s[i].toNat = bt s i := by rw [bt, dif_pos h]
def numAt (s : ByteArray) (n : Nat) : Int := num4 (bt s (4 * n)) (bt s (4 * n + 1)) (bt s (4 * n + 2)) (bt s (4 * n + 3))
theorem bt_nums {xs : List Int} {i : Nat} {x : Int} (h : xs[i]? = some x) (h0 : 0 ≤ x) (h1 : x < 256) : bt (strOfNums xs) i = x.toNat := by
  have hl : i < (strOfNums xs).size := by rw [strOfNums_size]; exact (List.getElem?_eq_some_iff.1 h).1
  rw [bt, dif_pos hl]
  have : (strOfNums xs)[i] = UInt8.ofNat x.toNat := by
    have e : (strOfNums xs).data[i]? = some (UInt8.ofNat x.toNat) := by
      show (xs.map fun n => UInt8.ofNat n.toNat).toArray[i]? = _
      simp [h]
    obtain ⟨_, e2⟩ := Array.getElem?_eq_some_iff.1 e
    exact e2
  rw [this, UInt8.toNat_ofNat']
  omega

/-- the sum of bytes -/
def sumStep (n : Int) (b : Nat) : Int := bits .xor .u32 n ((b : Int) % 4294967296) * 16777619 % 4294967296
def sumGo : Int → List Nat → Int
  | n, [] => n
  | n, b :: l => sumGo (sumStep n b) l
def bytesOf (s : ByteArray) : List Nat := (List.range s.size).map (bt s)
def sumOf (s : ByteArray) : Int := sumGo 2166136261 (bytesOf s)
theorem bytesOf_len (s : ByteArray) : (bytesOf s).length = s.size := by simp [bytesOf]
theorem sum_drop {s : ByteArray} {n : Int} {i : Nat} (h : i < s.size) : sumGo n ((bytesOf s).drop i) = sumGo (sumStep n (bt s i)) ((bytesOf s).drop (i + 1)) := by
  have h' : i < (bytesOf s).length := by rw [bytesOf_len]; exact h
  rw [List.drop_eq_getElem_cons h', sumGo]
  congr 2
  simp [bytesOf]
theorem sum_end {s : ByteArray} {n : Int} {i : Nat} (h : s.size ≤ i) : sumGo n ((bytesOf s).drop i) = n := by
  rw [List.drop_eq_nil_of_le (by rw [bytesOf_len]; exact h), sumGo]
theorem sumStep_in (n : Int) (b : Nat) : 0 ≤ sumStep n b ∧ sumStep n b < 4294967296 := by unfold sumStep; omega
theorem sumGo_in : ∀ (l : List Nat) (n : Int), 0 ≤ n → n < 4294967296 → 0 ≤ sumGo n l ∧ sumGo n l < 4294967296
  | [], n, h0, h1 => ⟨h0, h1⟩
  | b :: l, n, _, _ => by rw [sumGo]; exact sumGo_in l _ (sumStep_in n b).1 (sumStep_in n b).2
theorem sumOf_in (s : ByteArray) : 0 ≤ sumOf s ∧ sumOf s < 4294967296 := sumGo_in _ _ (by omega) (by omega)

/-- the numbers of a sector of a kind, if it is one -/
def nums (s : ByteArray) : List Int := (List.range 7).map (numAt s)
theorem nums_eq (s : ByteArray) : nums s = [numAt s 0, numAt s 1, numAt s 2, numAt s 3, numAt s 4, numAt s 5, numAt s 6] := rfl
def beg28 (s : ByteArray) : ByteArray := s.extract 0 28
def isSec (s : ByteArray) (kind : Int) : Prop := numAt s 0 = kind ∧ wrap32 (sumOf (beg28 s)) = numAt s 7
instance (s : ByteArray) (kind : Int) : Decidable (isSec s kind) := by unfold isSec; infer_instance

/-- a sector of a kind -/
def pad (l : List Int) : List Int := l ++ List.replicate (7 - l.length) 0
def secHead (kind : Int) (l : List Int) : List Int := words (pad (kind :: l))
def secB (kind : Int) (l : List Int) : List Int := secHead kind l ++ word (sumOf (strOfNums (secHead kind l)))
def secS (kind : Int) (l : List Int) : ByteArray := strOfNums (secB kind l)
theorem pad_len {l : List Int} (h : l.length ≤ 7) : (pad l).length = 7 := by simp [pad]; omega
theorem secHead_len {kind : Int} {l : List Int} (h : l.length ≤ 6) : (secHead kind l).length = 28 := by
  rw [secHead, words_len, pad_len (by simp; omega)]
theorem secS_size {kind : Int} {l : List Int} (h : l.length ≤ 6) : (secS kind l).size = 32 := by
  rw [secS, strOfNums_size, secB, List.length_append, secHead_len h, word_len]
theorem words_get : ∀ (l : List Int) (i : Nat) (x : Int) (rest : List Int) (j : Nat), l[i]? = some x → j < 4 → (words l ++ rest)[4 * i + j]? = (word x)[j]?
  | [], i, x, rest, j, h, _ => by simp at h
  | y :: l, 0, x, rest, j, h, hj => by
    obtain rfl : y = x := by simpa using h
    rw [words_cons, List.append_assoc, Nat.mul_zero, Nat.zero_add, List.getElem?_append_left (by rw [word_len]; exact hj)]
  | y :: l, i + 1, x, rest, j, h, hj => by
    rw [words_cons, List.append_assoc, List.getElem?_append_right (by rw [word_len]; omega), word_len, show 4 * (i + 1) + j - 4 = 4 * i + j by omega]
    exact words_get l i x rest j (by simpa using h) hj
theorem numAt_words {l rest : List Int} {i : Nat} {x : Int} (h : l[i]? = some x) : numAt (strOfNums (words l ++ rest)) i = wrap32 x := by
  unfold numAt
  have h0 := words_get l i x rest 0 h (by omega)
  have h1 := words_get l i x rest 1 h (by omega)
  have h2 := words_get l i x rest 2 h (by omega)
  have h3 := words_get l i x rest 3 h (by omega)
  rw [bt_nums (i := 4 * i) h0 (by omega) (by omega), bt_nums h1 (by omega) (by omega), bt_nums h2 (by omega) (by omega), bt_nums h3 (by omega) (by omega)]
  exact word_num x
theorem secS_num {kind : Int} {l : List Int} {i : Nat} {x : Int} (h : (pad (kind :: l))[i]? = some x) : numAt (secS kind l) i = wrap32 x := numAt_words h
theorem beg28_sec {kind : Int} {l : List Int} (h : l.length ≤ 6) : beg28 (secS kind l) = strOfNums (secHead kind l) := by
  unfold beg28 secS secB strOfNums
  rw [List.map_append]
  have hl : ((secHead kind l).map fun n => UInt8.ofNat n.toNat).length = 28 := by rw [List.length_map, secHead_len h]
  ext1
  simp only [ByteArray.data_extract]
  apply Array.ext'
  rw [Array.toList_extract]
  simp [List.extract_eq_take_drop, hl]
theorem secS_isSec {kind : Int} {l : List Int} (h : l.length ≤ 6) (hk : wrap32 kind = kind) : isSec (secS kind l) kind := by
  refine ⟨?_, ?_⟩
  · rw [secS_num (x := kind) (by simp [pad])]
    exact hk
  · rw [beg28_sec h]
    have hw : words [sumOf (strOfNums (secHead kind l))] = word (sumOf (strOfNums (secHead kind l))) := by simp [words]
    have : secS kind l = strOfNums (words (pad (kind :: l) ++ [sumOf (strOfNums (secHead kind l))]) ++ []) := by
      rw [List.append_nil, words_app, hw]; rfl
    rw [this, numAt_words]
    rw [List.getElem?_append_right (by rw [pad_len (by simp; omega)]; omega), pad_len (by simp; omega)]
    rfl

end Go.Proofs.Ytkojeofegoljpaa
