/- The parser's small steps: walked. The parser's words and numbers: walked. Each lemma states its own conditions. -/
import Derived.Test.YtegknpffiaeohaaDoorPrsP
import Derived.Test.YtegknpffiaeohaaDoorPrsM
import Derived.Test.YtegknpffiaeohaaDoorTokE
import Derived.Test.YtegknpffiaeohaaDoorShelf
import Derived.Deep.RegionLawGrows
import Derived.Deep.DeepCutAuto
namespace Go.Proofs.YtegknpffiaeohaaDoor
open Go.RowKit

/-- the parser's cells -/
def Ps (w : World) (g : Nat) (lv : Value) (p E : Nat) : Prop := Blk w g 58 #[lv, .int .i64 p, .int .i64 E]
section
variable {w w' : World} {g : Nat} {lv : Value} {p E : Nat}
theorem Ps.go (h : Ps w g lv p E) : w.cell? ⟨g, 0, none⟩ = some lv ∧ w.cell? ⟨g, 1, none⟩ = some (.int .i64 p) ∧ w.cell? ⟨g, 2, none⟩ = some (.int .i64 E) ∧ w.frozen? ⟨g, 1, none⟩ = false := ⟨h.cell rfl, h.cell rfl, h.cell rfl, h.frozen 1⟩
theorem Ps.keep (h : Ps w g lv p E) (hb : Bel w w') : Ps w' g lv p E := Blk.keep h hb
theorem Ps.at_ (h : Ps w g lv p E) {x : Int} {q : Nat} (hq : x = q) : Ps (w.setCell ⟨g, 1, none⟩ (.int .i64 x)) g lv q E := by
  subst hq
  exact h.set_ 1 (.int .i64 q)
theorem Ps.lt (h : Ps w g lv p E) : g < w.heap.size := Blk.lt h
end
/-- what a parser's failure looks like -/
abbrev failV (x : Int) : Ending := .panicked [{ v := .iface 78 (.int .i64 x), recovered := false }]

set_option maxRecDepth 20000 in
theorem take_yes (l : List Tok) (lv : Value) (p E g : Nat) (s : ByteArray) (w : World) (hl : Sl tokR w lv l) (hn : l.length ≤ 6000) (h : Ps w g lv p E) (ht : tk l p s = true) :
    Calls Tryd.prog 73 #[.pointer (some ⟨g, 0, none⟩), .string s] w fun r w' => r = .returned (.bool true) ∧ Ps w' g lv (p + 1) E ∧ w.grownBy w' (some g) := by
  have hp := tk_lt ht
  obtain ⟨t, hx⟩ : ∃ t, l[p]? = some t := ⟨_, List.getElem?_eq_getElem hp⟩
  rw [tk_some hx] at ht
  have hts := of_decide_eq_true ht
  obtain ⟨A, c, rfl, _, _, hA⟩ := hl
  obtain ⟨b, o, rfl, hcs⟩ := hA (by omega)
  obtain ⟨x0, x1, x2⟩ := tokR.cells hcs hx
  obtain ⟨y0, y1, y2, yf⟩ := h.go
  rw [hts] at x2
  have HP := Lib.hid h
  have d1 : decide (l.length ≤ p) = false := decide_eq_false (by omega)
  clear hcs hx hA h ht hts x0 x1
  go_enter Tryd.func73, Tryd.ntmps73
  go_wp2
  go_quiet (fail)
  go_wp2
  go_ret
  exact ⟨rfl, Ps.at_ (HP.out.keep ((Bel.rfl_ w).drN _)) (by omega), grownS_set (((Bel.rfl_ w).drN _).grown _) 1 _⟩

set_option maxRecDepth 20000 in
theorem take_no (l : List Tok) (lv : Value) (p E g : Nat) (s : ByteArray) (w : World) (hl : Sl tokR w lv l) (hn : l.length ≤ 6000) (h : Ps w g lv p E) (ht : tk l p s = false) :
    Calls Tryd.prog 73 #[.pointer (some ⟨g, 0, none⟩), .string s] w fun r w' => r = .returned (.bool false) ∧ Bel w w' := by
  obtain ⟨y0, y1, y2, yf⟩ := h.go
  obtain ⟨A, c, rfl, _, _, hA⟩ := hl
  by_cases hp : p < l.length
  · obtain ⟨t, hx⟩ : ∃ t, l[p]? = some t := ⟨_, List.getElem?_eq_getElem hp⟩
    rw [tk_some hx] at ht
    have hts := str_false (of_decide_eq_false ht)
    obtain ⟨b, o, rfl, hcs⟩ := hA (by omega)
    obtain ⟨x0, x1, x2⟩ := tokR.cells hcs hx
    have d1 : decide (l.length ≤ p) = false := decide_eq_false (by omega)
    clear hcs hx hA h ht x0 x1
    go_enter Tryd.func73, Tryd.ntmps73
    go_wp2
    go_quiet (fail)
    go_wp2
    go_ret
    exact ⟨rfl, (Bel.rfl_ w).drN _⟩
  · have d1 : decide (l.length ≤ p) = true := decide_eq_true (by omega)
    clear hA h ht
    go_enter Tryd.func73, Tryd.ntmps73
    go_wp2
    go_quiet (fail)
    go_wp2
    go_ret
    exact ⟨rfl, (Bel.rfl_ w).drN _⟩

set_option maxRecDepth 20000 in
theorem fail_any (l : List Tok) (lv : Value) (p E g : Nat) (w : World) (hl : Sl tokR w lv l) (hn : l.length ≤ 6000) (h : Ps w g lv p E) :
    Calls Tryd.prog 47 #[.pointer (some ⟨g, 0, none⟩)] w fun r w' => r = failV (place l E p) ∧ Bel w w' := by
  obtain ⟨y0, y1, y2, yf⟩ := h.go
  obtain ⟨A, c, rfl, _, _, hA⟩ := hl
  by_cases hp : p < l.length
  · obtain ⟨t, hx⟩ : ∃ t, l[p]? = some t := ⟨_, List.getElem?_eq_getElem hp⟩
    have HPL := Lib.hid (place_some (E := E) hx)
    obtain ⟨b, o, rfl, hcs⟩ := hA (by omega)
    obtain ⟨x0, x1, x2⟩ := tokR.cells hcs hx
    have d1 : decide (p < l.length) = true := decide_eq_true (by omega)
    clear hcs hx hA h x0 x2
    go_enter Tryd.func47, Tryd.ntmps47
    go_wp2
    go_quiet (fail)
    go_wp2
    go_quiet (fail)
    go_wp2
    exact ⟨rfl, by rw [HPL.out], (Bel.rfl_ w).drN _⟩
  · have HPL := Lib.hid (place_none (E := E) hp)
    have d1 : decide (p < l.length) = false := decide_eq_false (by omega)
    clear hA h
    go_enter Tryd.func47, Tryd.ntmps47
    go_wp2
    go_quiet (fail)
    go_wp2
    exact ⟨rfl, by rw [HPL.out], (Bel.rfl_ w).drN _⟩

/-- the words in memory -/
def wordsAt (w : World) (G : Nat) : Prop := Blk w G 9 (wordsL.map Value.string).toArray
theorem words_any (w : World) : Calls Tryd.prog 38 #[] w fun r w' => r = .returned (.slice (some ⟨w.heap.size, 0, none⟩) 15 15) ∧ wordsAt w' w.heap.size ∧ Bel w w' := by
  go_enter Tryd.func38, Tryd.ntmps38
  go_wp2
  go_ret
  exact ⟨rfl, Blk.new _ _ _, (Bel.rfl_ w).al _⟩
theorem wordsAt.cell {w : World} {G : Nat} (h : wordsAt w G) {k : Nat} (hk : k < 15) : w.cell? ⟨G, k, none⟩ = some (.string (wordB k)) := by
  refine Blk.cell h ?_
  unfold wordB
  rw [List.getElem?_toArray, List.getElem?_map, List.getD_eq_getElem?_getD]
  have : k < wordsL.length := hk
  rw [List.getElem?_eq_getElem this]
  rfl
end Go.Proofs.YtegknpffiaeohaaDoor

namespace Go.Proofs.YtegknpffiaeohaaDoor
open Go.RowKit

theorem lit_true {s : ByteArray} {xs : List UInt8} (h : s = ⟨xs.toArray⟩) : (s.toList == xs) = true := by
  rw [toList_data, h]
  simp
theorem lit_false {s : ByteArray} {xs : List UInt8} (h : s ≠ ⟨xs.toArray⟩) : (s.toList == xs) = false := by
  rw [toList_data, beq_eq_false_iff_ne]
  intro e
  apply h
  cases s
  simp only [ByteArray.mk.injEq]
  exact Array.toList_inj.1 (by simpa using e)
/-- digits, one at least, seven at most -/
def NumOk (s : ByteArray) : Prop := 0 < s.size ∧ s.size ≤ 7 ∧ ∀ b ∈ s.data.toList, 48 ≤ b.toNat ∧ b.toNat ≤ 57
theorem decFrom_num : ∀ (l : List UInt8) (a : Nat), (∀ b ∈ l, 48 ≤ b.toNat ∧ b.toNat ≤ 57) → ∃ n : Nat, Lib.decFrom a l = some n ∧ (n : Int) = l.foldl (fun n b => 10 * n + (b.toNat : Int) - 48) (a : Int)
  | [], a, _ => ⟨a, rfl, rfl⟩
  | b :: l, a, h => by
    have hb := h b (by simp)
    obtain ⟨n, h1, h2⟩ := decFrom_num l (a * 10 + (b.toNat - 48)) (fun x hx => h x (by simp [hx]))
    refine ⟨n, ?_, ?_⟩
    · rw [Lib.decFrom]
      unfold Lib.digitVal
      rw [if_pos hb]
      exact h1
    · rw [h2, List.foldl_cons]
      congr 1
      omega
theorem numB_pow : ∀ (l : List UInt8) (a : Int) (c : Nat), (∀ b ∈ l, 48 ≤ b.toNat ∧ b.toNat ≤ 57) → 0 ≤ a → a < ((10 ^ c : Nat) : Int) → 0 ≤ l.foldl (fun n b => 10 * n + (b.toNat : Int) - 48) a ∧ l.foldl (fun n b => 10 * n + (b.toNat : Int) - 48) a < ((10 ^ (c + l.length) : Nat) : Int)
  | [], a, c, _, h0, h1 => ⟨h0, h1⟩
  | b :: l, a, c, h, h0, h1 => by
    have hb := h b (by simp)
    have := numB_pow l (10 * a + (b.toNat : Int) - 48) (c + 1) (fun x hx => h x (by simp [hx])) (by omega) (by rw [Nat.pow_succ]; generalize 10 ^ c = y at *; omega)
    rw [List.foldl_cons, List.length_cons, show c + (l.length + 1) = c + 1 + l.length by omega]
    exact this
theorem NumOk.bound {s : ByteArray} (h : NumOk s) : 0 ≤ numB s ∧ numB s ≤ 9999999 := by
  obtain ⟨h1, h2, h3⟩ := h
  have := numB_pow s.data.toList 0 0 h3 (by omega) (by decide)
  have hl : s.data.toList.length ≤ 7 := by simpa using h2
  have hm : 10 ^ (0 + s.data.toList.length) ≤ 10 ^ 7 := Nat.pow_le_pow_right (by omega) (by omega)
  unfold numB
  have h7 : 10 ^ 7 = 10000000 := by decide
  generalize 10 ^ (0 + s.data.toList.length) = y at *
  omega
theorem NumOk.atoi {s : ByteArray} (h : NumOk s) : Lib.atoi s.data.toList = some (numB s) := by
  obtain ⟨h1, h2, h3⟩ := h
  obtain ⟨n, h4, h5⟩ := decFrom_num s.data.toList 0 h3
  unfold numB
  have hl : 0 < s.data.toList.length := by simpa using h1
  rw [show ((0 : Nat) : Int) = 0 from rfl] at h5
  cases hs : s.data.toList with
  | nil => rw [hs] at hl; simp at hl
  | cons b r =>
    rw [hs] at h3 h4 h5
    have hb := h3 b (by simp)
    have n45 : (b == 45) = false := by
      rw [beq_eq_false_iff_ne]
      intro e
      rw [e] at hb
      exact absurd hb (by decide)
    have n43 : (b == 43) = false := by
      rw [beq_eq_false_iff_ne]
      intro e
      rw [e] at hb
      exact absurd hb (by decide)
    unfold Lib.atoi
    simp only [n45, n43, Bool.false_eq_true, if_false]
    unfold Lib.decNat
    simp only [List.isEmpty_cons, Bool.false_eq_true, if_false, h4, Option.map_some]
    rw [h5]
theorem atoi_any (s : ByteArray) (h : NumOk s) (w : World) : Calls Tryd.prog 85 #[.string s] w fun r w' => r = .returned (.tuple #[.int .i64 (numB s), .nilIface]) ∧ Bel w w' :=
  (Tryd.strconv_Atoi s (numB s) (by have := h.2.1; omega) h.atoi w).mono fun _ _ ⟨h1, t, h2⟩ => ⟨h1, by
    subst h2
    exact ⟨rfl, rfl, rfl, by rw [Lib.bytesWorld_size]; omega, fun k hk => Lib.bytesWorld_at_old w _ t k hk⟩⟩
/-- numbers are digits; nothing else begins with one -/
def TokOk (t : Tok) : Prop := (t.kind = 2 → NumOk t.text) ∧ 0 < t.text.size ∧ (t.kind ≠ 2 → isD (bt t.text 0) = false)

/-- what word hands back -/
def WordRes (w : World) (g : Nat) (lv : Value) (l : List Tok) (p E : Nat) (R : Option Nat) (r : Ending) (w' : World) : Prop :=
  match R with
  | some k => r = .returned (.int .i64 k) ∧ Ps w' g lv (p + 1) E ∧ w.grownBy w' (some g)
  | none => r = failV (place l E p) ∧ Bel w w'

set_option maxRecDepth 20000 in
theorem word_any (l : List Tok) (lv kv : Value) (ks : List Nat) (p E g : Nat) (w : World) (hl : Sl tokR w lv l) (hn : l.length ≤ 6000) (h : Ps w g lv p E) (hk : Sl intR w kv (ks.map fun (k : Nat) => (k : Int))) (hk15 : ∀ k ∈ ks, k < 15) (hkl : ks.length ≤ 20) :
    Calls Tryd.prog 74 #[.pointer (some ⟨g, 0, none⟩), kv] w fun r w' => WordRes w g lv l p E (wordP l ks p) r w' := by
  have HY := Lib.hid (fun W (hb : Bel w W) s ht => take_yes l lv p E g s W (hl.keep hb) hn (h.keep hb) ht)
  have HN := Lib.hid (fun W (hb : Bel w W) s ht => take_no l lv p E g s W (hl.keep hb) hn (h.keep hb) ht)
  have HF := Lib.hid (fun W (hb : Bel w W) => fail_any l lv p E g W (hl.keep hb) hn (h.keep hb))
  have HW := Lib.hid words_any
  have H15 := Lib.hid hk15
  obtain ⟨A, c, rfl, _, _, hA⟩ := hk
  rw [List.length_map] at hA ⊢
  have HA := Lib.hid hA
  have HRF := Lib.hid (Bel.rfl_ w)
  clear hA h hl hk15
  go_enter Tryd.func74, Tryd.ntmps74
  go_wp2
  go_loopw [9] (fun t wr => ∃ j : Nat, j ≤ ks.length ∧ t = .int .i64 j ∧ Hid (wordP l (ks.drop j) p = wordP l ks p) ∧ Hid (Bel w wr)) (fun t _ => ks.length - (intOf t).toNat)
  case atStart => exact ⟨0, by omega, rfl, Lib.hid rfl, HRF⟩
  case round =>
    obtain ⟨j, hj, rfl, HS, HB⟩ := hrel
    by_cases hlt : j < ks.length
    · have hd : decide ((j : Int) < ks.length) = true := decide_eq_true (by omega)
      obtain ⟨k, hx⟩ : ∃ k, ks[j]? = some k := ⟨_, List.getElem?_eq_getElem hlt⟩
      obtain ⟨b, o, rfl, hcs⟩ := HA.out (by omega)
      have x0 := HB.out.cell (intR.cell hcs (k := j) (x := (k : Int)) (by rw [List.getElem?_map, hx]; rfl))
      have hk15 := H15.out k (List.mem_of_getElem? hx)
      have HS1 : Hid (wordP l (k :: ks.drop (j + 1)) p = wordP l ks p) := Lib.hid (by
        obtain ⟨hlx, rfl⟩ := List.getElem?_eq_some_iff.1 hx
        rw [← HS.out, List.drop_eq_getElem_cons hlx])
      clear hcs hx
      go_wp2_with fail
      refine (HW.out _).mono ?_
      rintro r w1 ⟨rfl, hw1, hb1⟩
      have x1 := hw1.cell hk15
      replace HB := Lib.hid (HB.out.tr hb1)
      clear hw1 hb1
      by_cases ht : tk l p (wordB k) = true
      · have HT := Lib.hid ht
        have HR : Hid (wordP l ks p = some k) := Lib.hid (by rw [← HS1.out, wordP_yes ht])
        clear ht HS1 HS
        generalize wordB k = s at *
        go_wp2_with fail
        refine (HY.out _ HB.out _ HT.out).mono ?_
        rintro r w2 ⟨rfl, hp2, hg2⟩
        have HP2 := Lib.hid hp2
        have HG2 := Lib.hid ((HB.out.grown (some g)).trans hg2)
        clear hp2 hg2
        go_wp2
        go_ret
        rw [HR.out]
        exact ⟨rfl, HP2.out, HG2.out⟩
      · have ht : tk l p (wordB k) = false := by simpa using ht
        have HT := Lib.hid ht
        have HR : Hid (wordP l (ks.drop (j + 1)) p = wordP l ks p) := Lib.hid (by rw [← HS1.out, wordP_no ht])
        clear ht HS1 HS
        generalize wordB k = s at *
        go_wp2_with fail
        refine (HN.out _ HB.out _ HT.out).mono ?_
        rintro r w2 ⟨rfl, hb2⟩
        replace HB := Lib.hid (HB.out.tr hb2)
        clear hb2
        go_wp2
        go_roundw
        case rel => exact ⟨j + 1, by omega, by go_num, HR, HB⟩
        case measure => simp [intOf]; omega
    · obtain rfl : j = ks.length := by omega
      have hd : decide ((ks.length : Int) < ks.length) = false := decide_eq_false (by omega)
      have HR : Hid (wordP l ks p = none) := Lib.hid (by rw [← HS.out, List.drop_length]; rfl)
      clear HS
      go_wp2_with fail
      refine (HF.out _ HB.out).mono ?_
      rintro r w2 ⟨rfl, hb2⟩
      replace HB := Lib.hid (HB.out.tr hb2)
      clear hb2
      go_wp2
      refine ⟨rfl, ?_⟩
      rw [HR.out]
      exact ⟨rfl, HB.out⟩

/-- what k hands back -/
def NumRes (w : World) (g : Nat) (lv : Value) (l : List Tok) (E : Nat) (R : PR Int) (r : Ending) (w' : World) : Prop :=
  w.grownBy w' (some g) ∧ match R with
  | .ok n p => r = .returned (.int .i64 n) ∧ Ps w' g lv p E
  | .fail p => r = failV (place l E p)
theorem grownBel {w0 w W : World} {g : Nat} (h0 : Bel w0 w) (hg : w0.heap.size ≤ g) (h : w.grownBy W (some g)) : Bel w0 W :=
  Below.grown h0 h h0.size (fun k hk => by
    have : g = k := Option.some.inj hk
    omega)
theorem numP_none {l : List Tok} {m : Bool} {p : Nat} (h : ¬ p < l.length) : numP l m p = .fail p := by unfold numP; rw [List.getElem?_eq_none (by omega)]
theorem numP_bad {l : List Tok} {m : Bool} {p : Nat} {t : Tok} (h : l[p]? = some t) (hb : t.kind ≠ 2 ∨ (m = true ∧ t.text = zeroB)) : numP l m p = .fail p := by unfold numP; rw [h]; simp only []; rw [if_pos hb]
theorem numP_good {l : List Tok} {m : Bool} {p : Nat} {t : Tok} (h : l[p]? = some t) (hb : ¬ (t.kind ≠ 2 ∨ (m = true ∧ t.text = zeroB))) : numP l m p = .ok (if m then -numB t.text else numB t.text) (p + 1) := by unfold numP; rw [h]; simp only []; rw [if_neg hb]

set_option maxRecDepth 20000 in
theorem k0_any (l : List Tok) (lv : Value) (p E g : Nat) (w0 w : World) (hl : Sl tokR w0 lv l) (hn : l.length ≤ 6000) (hok : ∀ t ∈ l, TokOk t) (h0 : Bel w0 w) (hg : w0.heap.size ≤ g) (h : Ps w g lv p E) (hp6 : p ≤ l.length) :
    Calls Tryd.prog 75 #[.pointer (some ⟨g, 0, none⟩), .bool false] w fun r w' => NumRes w g lv l E (numP l false p) r w' := by
  have HP := Lib.hid h
  have HG := Lib.hid ((Bel.rfl_ w).grown (some g))
  clear h
  go_enter Tryd.func75, Tryd.ntmps75
  go_wp2
  obtain ⟨W, hW⟩ : ∃ W, W = w := ⟨w, rfl⟩
  have HG : Hid (w.grownBy W (some g)) := by rw [hW]; exact HG
  have HP : Hid (Ps W g lv p E) := by rw [hW]; exact HP
  rw [← hW]
  clear hW

  have hbW := grownBel h0 hg HG.out
  have HF := Lib.hid (fun V (hb : Bel W V) => fail_any l lv p E g V (hl.keep (hbW.tr hb)) hn (HP.out.keep hb))
  have HL := Lib.hid (hl.keep hbW)
  clear hbW
  obtain ⟨A, c, rfl, _, _, hA⟩ := HL.out
  obtain ⟨y0, y1, y2, yf⟩ := HP.out.go
  by_cases hp : p < l.length
  rotate_left
  · have HRR := Lib.hid (numP_none (m := false) hp)
    have d1 : decide (l.length ≤ p) = true := decide_eq_true (by omega)
    clear hA HL
    go_quiet (fail)
    go_wp2_with fail
    refine (HF.out _ ((Bel.rfl_ W).drN _)).mono ?_
    rintro r w2 ⟨rfl, hb2⟩
    have HG2 := Lib.hid (HG.out.trans ((((Bel.rfl_ W).drN _).tr hb2).grown (some g)))
    clear hb2
    go_wp2
    refine ⟨rfl, HG2.out, ?_⟩
    rw [HRR.out]
  obtain ⟨t, hx⟩ : ∃ t, l[p]? = some t := ⟨_, List.getElem?_eq_getElem hp⟩
  obtain ⟨b, o, rfl, hcs⟩ := hA (by omega)
  obtain ⟨x0, x1, x2⟩ := tokR.cells hcs hx
  have d1 : decide (l.length ≤ p) = false := decide_eq_false (by omega)
  have HX := Lib.hid hx
  have HNO := Lib.hid ((hok t (List.mem_of_getElem? hx)).1)
  clear hcs hx hA HL x1
  by_cases hk : t.kind = 2
  rotate_left
  · have hk2 : (t.kind != 2) = true := by simpa using hk
    have HRR := Lib.hid (numP_bad (m := false) HX.out (.inl hk))
    clear hk
    go_quiet (fail)
    go_wp2_with fail
    refine (HF.out _ ((Bel.rfl_ W).drN _)).mono ?_
    rintro r w2 ⟨rfl, hb2⟩
    have HG2 := Lib.hid (HG.out.trans ((((Bel.rfl_ W).drN _).tr hb2).grown (some g)))
    clear hb2
    go_wp2
    refine ⟨rfl, HG2.out, ?_⟩
    rw [HRR.out]
  rw [hk] at x0
  have HRR := Lib.hid (numP_good (m := false) HX.out (by rintro (h | ⟨h, _⟩); exact h hk; cases h))
  have HAT := Lib.hid (atoi_any t.text (HNO.out hk))
  obtain ⟨hb1, hb2⟩ := (HNO.out hk).bound
  clear hk HNO
  have HBW := Lib.hid (Bel.rfl_ W)
  generalize numB t.text = N at *
  go_quiet (fail)
  go_wp2
  go_region_law (first | (go_simp; go_at_call 85; refine (HAT.out _).mono ?_; rintro r w2 ⟨rfl, hb2'⟩; have HB2 := Lib.hid (Bel.tr (by repeat (first | exact Bel.rfl_ _ | apply Bel.drN | apply Bel.dr)) hb2' : Bel W _); obtain ⟨z0, z1, z2, zf⟩ := (HP.out.keep HB2.out).go; clear hb2'))
  all_goals go_wp2
  all_goals go_ret
  all_goals exact ⟨HG.out.trans (grownS_set (HB2.out.grown (some g)) 1 _), by rw [HRR.out]; exact ⟨by simp, Ps.at_ (HP.out.keep HB2.out) (by omega)⟩⟩

set_option maxRecDepth 20000 in
theorem k1n_any (l : List Tok) (lv : Value) (p E g : Nat) (w0 w : World) (hl : Sl tokR w0 lv l) (hn : l.length ≤ 6000) (hok : ∀ t ∈ l, TokOk t) (h0 : Bel w0 w) (hg : w0.heap.size ≤ g) (h : Ps w g lv p E) (hp6 : p ≤ l.length) (ht : tk l p dashB = false) :
    Calls Tryd.prog 75 #[.pointer (some ⟨g, 0, none⟩), .bool true] w fun r w' => NumRes w g lv l E (numP l false p) r w' := by
  have HT := Lib.hid (take_no l lv p E g ⟨#[45]⟩ w (hl.keep h0) hn h ht)
  have HP0 := Lib.hid h
  clear h ht
  go_enter Tryd.func75, Tryd.ntmps75
  go_wp2_with fail
  refine HT.out.mono ?_
  rintro r W ⟨rfl, hbw⟩
  have HG := Lib.hid (hbw.grown (some g))
  have HP := Lib.hid (HP0.out.keep hbw)
  clear hbw HT HP0
  go_upto_region 4 with fail
  have hbW := grownBel h0 hg HG.out
  have HF := Lib.hid (fun V (hb : Bel W V) => fail_any l lv p E g V (hl.keep (hbW.tr hb)) hn (HP.out.keep hb))
  have HL := Lib.hid (hl.keep hbW)
  clear hbW
  obtain ⟨A, c, rfl, _, _, hA⟩ := HL.out
  obtain ⟨y0, y1, y2, yf⟩ := HP.out.go
  by_cases hp : p < l.length
  rotate_left
  · have HRR := Lib.hid (numP_none (m := false) hp)
    have d1 : decide (l.length ≤ p) = true := decide_eq_true (by omega)
    clear hA HL
    go_quiet (fail)
    go_wp2_with fail
    refine (HF.out _ ((Bel.rfl_ W).drN _)).mono ?_
    rintro r w2 ⟨rfl, hb2⟩
    have HG2 := Lib.hid (HG.out.trans ((((Bel.rfl_ W).drN _).tr hb2).grown (some g)))
    clear hb2
    go_wp2
    refine ⟨rfl, HG2.out, ?_⟩
    rw [HRR.out]
  obtain ⟨t, hx⟩ : ∃ t, l[p]? = some t := ⟨_, List.getElem?_eq_getElem hp⟩
  obtain ⟨b, o, rfl, hcs⟩ := hA (by omega)
  obtain ⟨x0, x1, x2⟩ := tokR.cells hcs hx
  have d1 : decide (l.length ≤ p) = false := decide_eq_false (by omega)
  have HX := Lib.hid hx
  have HNO := Lib.hid ((hok t (List.mem_of_getElem? hx)).1)
  clear hcs hx hA HL x1
  by_cases hk : t.kind = 2
  rotate_left
  · have hk2 : (t.kind != 2) = true := by simpa using hk
    have HRR := Lib.hid (numP_bad (m := false) HX.out (.inl hk))
    clear hk
    go_quiet (fail)
    go_wp2_with fail
    refine (HF.out _ ((Bel.rfl_ W).drN _)).mono ?_
    rintro r w2 ⟨rfl, hb2⟩
    have HG2 := Lib.hid (HG.out.trans ((((Bel.rfl_ W).drN _).tr hb2).grown (some g)))
    clear hb2
    go_wp2
    refine ⟨rfl, HG2.out, ?_⟩
    rw [HRR.out]
  rw [hk] at x0
  have HRR := Lib.hid (numP_good (m := false) HX.out (by rintro (h | ⟨h, _⟩); exact h hk; cases h))
  have HAT := Lib.hid (atoi_any t.text (HNO.out hk))
  obtain ⟨hb1, hb2⟩ := (HNO.out hk).bound
  clear hk HNO
  have HBW := Lib.hid (Bel.rfl_ W)
  generalize numB t.text = N at *
  go_quiet (fail)
  go_wp2
  go_region_law (first | (go_simp; go_at_call 85; refine (HAT.out _).mono ?_; rintro r w2 ⟨rfl, hb2'⟩; have HB2 := Lib.hid (Bel.tr (by repeat (first | exact Bel.rfl_ _ | apply Bel.drN | apply Bel.dr)) hb2' : Bel W _); obtain ⟨z0, z1, z2, zf⟩ := (HP.out.keep HB2.out).go; clear hb2'))
  all_goals go_wp2
  all_goals go_ret
  all_goals exact ⟨HG.out.trans (grownS_set (HB2.out.grown (some g)) 1 _), by rw [HRR.out]; exact ⟨by simp, Ps.at_ (HP.out.keep HB2.out) (by omega)⟩⟩

set_option maxRecDepth 20000 in
theorem k1y_any (l : List Tok) (lv : Value) (p E g : Nat) (w0 w : World) (hl : Sl tokR w0 lv l) (hn : l.length ≤ 6000) (hok : ∀ t ∈ l, TokOk t) (h0 : Bel w0 w) (hg : w0.heap.size ≤ g) (h : Ps w g lv p E) (_hp6 : p ≤ l.length) (ht : tk l p dashB = true) (q : Nat) (hq : p + 1 = q) :
    Calls Tryd.prog 75 #[.pointer (some ⟨g, 0, none⟩), .bool true] w fun r w' => NumRes w g lv l E (numP l true q) r w' := by
  have HT := Lib.hid (take_yes l lv p E g ⟨#[45]⟩ w (hl.keep h0) hn h ht)
  have HP0 := Lib.hid h
  clear h ht
  go_enter Tryd.func75, Tryd.ntmps75
  go_wp2_with fail
  refine HT.out.mono ?_
  rintro r W ⟨rfl, hps, hgr⟩
  have HG := Lib.hid hgr
  have HP := Lib.hid hps
  rw [hq] at HP
  clear hps hgr HT HP0 hq
  go_upto_region 4 with fail
  have hbW := grownBel h0 hg HG.out
  have HF := Lib.hid (fun V (hb : Bel W V) => fail_any l lv q E g V (hl.keep (hbW.tr hb)) hn (HP.out.keep hb))
  have HL := Lib.hid (hl.keep hbW)
  clear hbW
  obtain ⟨A, c, rfl, _, _, hA⟩ := HL.out
  obtain ⟨y0, y1, y2, yf⟩ := HP.out.go
  by_cases hp : q < l.length
  rotate_left
  · have HRR := Lib.hid (numP_none (m := true) hp)
    have d1 : decide (l.length ≤ q) = true := decide_eq_true (by omega)
    clear hA HL
    go_quiet (fail)
    go_wp2_with fail
    refine (HF.out _ ((Bel.rfl_ W).drN _)).mono ?_
    rintro r w2 ⟨rfl, hb2⟩
    have HG2 := Lib.hid (HG.out.trans ((((Bel.rfl_ W).drN _).tr hb2).grown (some g)))
    clear hb2
    go_wp2
    refine ⟨rfl, HG2.out, ?_⟩
    rw [HRR.out]
  obtain ⟨t, hx⟩ : ∃ t, l[q]? = some t := ⟨_, List.getElem?_eq_getElem hp⟩
  obtain ⟨b, o, rfl, hcs⟩ := hA (by omega)
  obtain ⟨x0, x1, x2⟩ := tokR.cells hcs hx
  have d1 : decide (l.length ≤ q) = false := decide_eq_false (by omega)
  have HX := Lib.hid hx
  have HNO := Lib.hid ((hok t (List.mem_of_getElem? hx)).1)
  clear hcs hx hA HL x1
  by_cases hk : t.kind = 2
  rotate_left
  · have hk2 : (t.kind != 2) = true := by simpa using hk
    have HRR := Lib.hid (numP_bad (m := true) HX.out (.inl hk))
    clear hk
    go_quiet (fail)
    go_wp2_with fail
    refine (HF.out _ ((Bel.rfl_ W).drN _)).mono ?_
    rintro r w2 ⟨rfl, hb2⟩
    have HG2 := Lib.hid (HG.out.trans ((((Bel.rfl_ W).drN _).tr hb2).grown (some g)))
    clear hb2
    go_wp2
    refine ⟨rfl, HG2.out, ?_⟩
    rw [HRR.out]
  rw [hk] at x0
  by_cases hz : t.text = zeroB
  · have hz2 : (t.text.toList == [48]) = true := lit_true hz
    have HRR := Lib.hid (numP_bad (m := true) HX.out (.inr ⟨rfl, hz⟩))
    clear hz
    go_quiet (fail)
    go_wp2_with fail
    refine (HF.out _ ((Bel.rfl_ W).drN _)).mono ?_
    rintro r w2 ⟨rfl, hb2⟩
    have HG2 := Lib.hid (HG.out.trans ((((Bel.rfl_ W).drN _).tr hb2).grown (some g)))
    clear hb2
    go_wp2
    refine ⟨rfl, HG2.out, ?_⟩
    rw [HRR.out]
  have hz2 : (t.text.toList == [48]) = false := lit_false hz
  have HRR := Lib.hid (numP_good (m := true) HX.out (by rintro (h | ⟨_, h⟩); exact h hk; exact hz h))
  have HAT := Lib.hid (atoi_any t.text (HNO.out hk))
  obtain ⟨hb1, hb2⟩ := (HNO.out hk).bound
  clear hz hk HNO
  have HBW := Lib.hid (Bel.rfl_ W)
  generalize numB t.text = N at *
  go_quiet (fail)
  go_wp2
  go_region_law (first | (go_simp; go_at_call 85; refine (HAT.out _).mono ?_; rintro r w2 ⟨rfl, hb2'⟩; have HB2 := Lib.hid (Bel.tr (by repeat (first | exact Bel.rfl_ _ | apply Bel.drN | apply Bel.dr)) hb2' : Bel W _); obtain ⟨z0, z1, z2, zf⟩ := (HP.out.keep HB2.out).go; clear hb2'))
  all_goals go_wp2
  all_goals go_ret
  all_goals exact ⟨HG.out.trans (grownS_set (HB2.out.grown (some g)) 1 _), by rw [HRR.out]; exact ⟨by simp, Ps.at_ (HP.out.keep HB2.out) (by omega)⟩⟩

theorem k1_any (l : List Tok) (lv : Value) (p E g : Nat) (w0 w : World) (hl : Sl tokR w0 lv l) (hn : l.length ≤ 6000) (hok : ∀ t ∈ l, TokOk t) (h0 : Bel w0 w) (hg : w0.heap.size ≤ g) (h : Ps w g lv p E) (hp6 : p ≤ l.length) :
    Calls Tryd.prog 75 #[.pointer (some ⟨g, 0, none⟩), .bool true] w fun r w' => NumRes w g lv l E (kP l true p) r w' := by
  cases ht : tk l p dashB with
  | true =>
    have e : kP l true p = numP l true (p + 1) := by unfold kP minus; rw [ht]; rfl
    rw [e]
    exact k1y_any l lv p E g w0 w hl hn hok h0 hg h hp6 ht _ rfl
  | false =>
    have e : kP l true p = numP l false p := by unfold kP minus; rw [ht]; rfl
    rw [e]
    exact k1n_any l lv p E g w0 w hl hn hok h0 hg h hp6 ht
theorem kF_any (l : List Tok) (lv : Value) (p E g : Nat) (w0 w : World) (hl : Sl tokR w0 lv l) (hn : l.length ≤ 6000) (hok : ∀ t ∈ l, TokOk t) (h0 : Bel w0 w) (hg : w0.heap.size ≤ g) (h : Ps w g lv p E) (hp6 : p ≤ l.length) :
    Calls Tryd.prog 75 #[.pointer (some ⟨g, 0, none⟩), .bool false] w fun r w' => NumRes w g lv l E (kP l false p) r w' := by
  have e : kP l false p = numP l false p := rfl
  rw [e]
  exact k0_any l lv p E g w0 w hl hn hok h0 hg h hp6

end Go.Proofs.YtegknpffiaeohaaDoor
