/- What a query is printed to, in plain words. The program's show, kind by kind: walked. Each lemma states its own conditions. -/
import Derived.Test.YtegknpffiaeohaaDoorPrsP
import Derived.Test.YtegknpffiaeohaaDoorShelf
import Derived.Lib.ItoaNum
import Derived.Lib.AppendIntMem
import Derived.WalkSmall
import Derived.Test.YtegknpffiaeohaaDoorPrsB
import Derived.Deep.RegionLawGrows
import Derived.Deep.DeepCutAuto
import Derived.Deep.RegionHeld3
namespace Go.Proofs.YtegknpffiaeohaaDoor
open Go.RowKit

def digB (n : Int) : ByteArray := ⟨(Lib.itoa n).toArray⟩
def blankB : ByteArray := ⟨#[32]⟩
/-- how many parts a query has -/
def Ask.cnt : Ask → Nat
  | .mk _ _ args => 1 + cntL args
where cntL : List Ask → Nat
  | [] => 0
  | x :: xs => x.cnt + cntL xs
def headB (k n : Int) : ByteArray :=
  if k = 1 ∨ k = 2 ∨ k = 3 ∨ k = 5 ∨ k = 6 then (wordB k.toNat ++ blankB) ++ (if k ≤ 3 ∧ n = -1 then anyB else digB n)
  else if k = 14 then (wordB k.toNat ++ blankB) ++ digB n
  else wordB k.toNat
/-- one kind's text, of its Args' texts -/
def textK (k n : Int) (l : List ByteArray) : ByteArray :=
  if k = 4 ∨ k = 1 ∨ k = 2 ∨ k = 3 ∨ k = 5 ∨ k = 6 then headB k n
  else if k = 8 ∨ k = 9 ∨ k = 13 then (((((lparB ++ l.getD 0 ⟨#[]⟩) ++ blankB) ++ wordB k.toNat) ++ blankB) ++ l.getD 1 ⟨#[]⟩) ++ rparB
  else (headB k n ++ blankB) ++ l.getD 0 ⟨#[]⟩
def Ask.text : Ask → ByteArray
  | .mk k n args => textK k n (textL args)
where textL : List Ask → List ByteArray
  | [] => []
  | x :: xs => x.text :: textL xs

theorem textL_get : ∀ (xs : List Ask) (i : Nat) (x : Ask), xs[i]? = some x → (Ask.text.textL xs).getD i ⟨#[]⟩ = x.text
  | [], _, _, h => by simp at h
  | y :: ys, 0, x, h => by
    obtain rfl : y = x := by simpa using h
    rfl
  | y :: ys, i + 1, x, h => by
    rw [Ask.text.textL]
    simpa using textL_get ys i x (by simpa using h)
theorem cntL_mem {x : Ask} : ∀ {xs : List Ask}, x ∈ xs → x.cnt ≤ Ask.cnt.cntL xs
  | [], h => by simp at h
  | y :: ys, h => by
    rw [Ask.cnt.cntL]
    rcases List.mem_cons.1 h with rfl | h
    · omega
    · have := cntL_mem h
      omega
/-- not more parts than enough: it is how many there are -/
theorem sizeL_cnt {xs : List Ask} (h : ∀ x ∈ xs, ∀ m, 0 ≤ m → x.size m ≤ m → x.size m = x.cnt) (hl : ∀ x ∈ xs, ∀ m, 0 ≤ m → 1 ≤ x.size m ∧ x.size m ≤ m + 1) : ∀ (a m : Int), 1 ≤ a → a ≤ m + 1 → sizeL xs a m ≤ m → sizeL xs a m = a + Ask.cnt.cntL xs := by
  induction xs with
  | nil => intro a m _ _ _; rw [sizeL, Ask.cnt.cntL]; omega
  | cons x xs ih =>
    intro a m h1 h2 h3
    rw [sizeL] at h3 ⊢
    rw [Ask.cnt.cntL]
    by_cases hm : m < a
    · rw [if_pos hm] at h3; omega
    · rw [if_neg hm] at h3 ⊢
      obtain ⟨h4, h5⟩ := hl x (by simp) (m - a) (by omega)
      by_cases h6 : x.size (m - a) ≤ m - a
      · have h7 := h x (by simp) (m - a) (by omega) h6
        rw [ih (fun y hy => h y (by simp [hy])) (fun y hy => hl y (by simp [hy])) _ _ (by omega) (by omega) h3, h7]
        omega
      · exfalso
        have h8 : a + x.size (m - a) = m + 1 := by omega
        rw [h8] at h3
        cases xs with
        | nil => rw [sizeL] at h3; omega
        | cons y ys => rw [sizeL, if_pos (by omega)] at h3; omega
theorem size_cnt : ∀ (q : Ask) (m : Int), 0 ≤ m → q.size m ≤ m → q.size m = q.cnt :=
  Ask.ind fun k n args ih m hm h => by
    rw [Ask.size] at h ⊢
    rw [sizeL_cnt ih (fun x _ m hm => Ask.size_le x m hm) 1 m (by omega) (by omega) h, Ask.cnt]
    omega
theorem err_cnt {q : Ask} (h : q.err = 0) : q.cnt ≤ 15 := by
  unfold Ask.err at h
  by_cases h1 : 15 < q.size 15
  · rw [if_pos h1] at h; omega
  · have := size_cnt q 15 (by omega) (by omega)
    omega

theorem nDigits_le {u : Nat} (h : u < 10000000) : Lib.nDigits u ≤ 7 := by
  by_cases h0 : Lib.nDigits u ≤ 7
  · exact h0
  · have h1 : 1 ≤ Lib.nDigits u := Lib.nDigits_pos u
    exfalso
    have : ∀ k u, u < 10 ^ k → Lib.nDigits u ≤ max k 1 := by
      intro k
      induction k with
      | zero => intro u hu; rw [Lib.nDigits_small (by omega)]; omega
      | succ k ih =>
        intro u hu
        by_cases h10 : u < 10
        · rw [Lib.nDigits_small h10]; omega
        · rw [Lib.nDigits_big h10]
          have := ih (u / 10) (by rw [Nat.pow_succ] at hu; omega)
          by_cases hk : k = 0
          · subst hk; rw [Nat.pow_succ] at hu; omega
          · omega
    have := this 7 u h
    omega
theorem digB_size {n : Int} (h : -9999999 ≤ n ∧ n ≤ 9999999) : (digB n).size ≤ 8 := by
  have : (digB n).size = (Lib.itoa n).length := by simp [digB, ByteArray.size]
  rw [this]
  unfold Lib.itoa
  split
  · rw [List.length_cons, Lib.decDigits_length]
    have := nDigits_le (u := n.natAbs) (by omega)
    omega
  · rw [Lib.decDigits_length]
    have := nDigits_le (u := n.toNat) (by omega)
    omega
theorem wordB_size (k : Nat) : (wordB k).size ≤ 5 := by
  by_cases h : k < 15
  · have : ∀ k : Fin 15, (wordB k.val).size ≤ 5 := by decide
    exact this ⟨k, h⟩
  · unfold wordB
    rw [List.getD_eq_getElem?_getD, List.getElem?_eq_none (by simp [wordsL]; omega)]
    decide
theorem headB_size {k n : Int} (h : -9999999 ≤ n ∧ n ≤ 9999999) : (headB k n).size ≤ 14 := by
  have h1 := wordB_size k.toNat
  have h2 := digB_size h
  have h3 : blankB.size = 1 := rfl
  have h4 : anyB.size = 3 := rfl
  unfold headB
  repeat' split
  all_goals try simp only [ByteArray.size_append]
  all_goals omega
theorem chk_n {q : Ask} (h : q.chk = 0) : -9999999 ≤ q.n ∧ q.n ≤ 9999999 := by
  obtain ⟨k, n, args⟩ := q
  obtain ⟨h1, h2, h3, h4⟩ := Ask.chk_zero h
  unfold leastN mostN at h3
  simp only [Ask.n]
  refine ⟨?_, ?_⟩
  · have := h3.1
    split at this
    · omega
    · split at this <;> omega
  · have := h3.2
    split at this
    · omega
    · split at this
      · omega
      · split at this <;> omega
def cntAt (args : List Ask) (i : Nat) : Nat := (args[i]?.map Ask.cnt).getD 0
theorem text_size : ∀ (q : Ask), q.chk = 0 → q.text.size ≤ 30 * q.cnt :=
  Ask.ind fun k n args ih h => by
    have hn := chk_n h
    obtain ⟨h1, h2, -, h4⟩ := Ask.chk_zero h
    have hh := headB_size (k := k) hn
    have hw := wordB_size k.toNat
    have e1 : lparB.size = 1 := rfl
    have e2 : rparB.size = 1 := rfl
    have e3 : blankB.size = 1 := rfl
    have hg : ∀ i, ((Ask.text.textL args).getD i ⟨#[]⟩).size ≤ 30 * cntAt args i := by
      intro i
      cases hx : args[i]? with
      | none =>
        have : (Ask.text.textL args).getD i ⟨#[]⟩ = ⟨#[]⟩ := by
          have hl : ∀ (xs : List Ask), (Ask.text.textL xs).length = xs.length := by
            intro xs
            induction xs with
            | nil => rfl
            | cons y ys ih => rw [Ask.text.textL, List.length_cons, ih, List.length_cons]
          rw [List.getD_eq_getElem?_getD, List.getElem?_eq_none (by rw [hl]; exact List.getElem?_eq_none_iff.1 hx)]
          rfl
        rw [this]
        exact Nat.zero_le _
      | some x =>
        rw [textL_get args i x hx]
        have hm := List.mem_of_getElem? hx
        have e : cntAt args i = x.cnt := by unfold cntAt; rw [hx]; rfl
        rw [e]
        exact ih x hm (h4 x hm)
    have hc : cntAt args 0 + cntAt args 1 ≤ Ask.cnt.cntL args := by
      match args with
      | [] => simp [cntAt]
      | [x] => simp [Ask.cnt.cntL, cntAt]
      | x :: y :: zs => simp [Ask.cnt.cntL, cntAt]
    have g0 := hg 0
    have g1 := hg 1
    rw [Ask.text, Ask.cnt]
    unfold textK
    repeat' split
    all_goals try simp only [ByteArray.size_append]
    all_goals simp only [Ask.n] at hh
    all_goals omega
end Go.Proofs.YtegknpffiaeohaaDoor

namespace Go.Proofs.YtegknpffiaeohaaDoor
open Go.RowKit

/-- the library's table of powers -/
def Tab (w : World) : Prop := Lib.TabIs Tryd.prog w "internal/strconv.uint64pow10" .u64 Lib.pow10Tab
theorem Tab.keep {w w' : World} (hb : Bel w w') (h : Tab w) : Tab w' := by
  have hg : Tryd.prog.globalNamed "internal/strconv.uint64pow10" = some (Tryd.prog.globalNamed "internal/strconv.uint64pow10" |>.getD 0) := by kernel_rfl
  have h0 := h
  unfold Tab Lib.TabIs at h
  refine var?_below hb hg ?_ h
  have hc := Lib.TabIs.cell h0 hg 0 (by rw [Lib.pow10Tab_length]; omega)
  exact lt_of_cell hc
theorem itoa_any (n : Int) (w : World) (hn : -9999999 ≤ n ∧ n ≤ 9999999) (ht : Tab w) : Calls Tryd.prog 39 #[.int .i64 n] w fun r w' => r = .returned (.string (digB n)) ∧ Bel w w' :=
  (Tryd.strconv_Itoa n (by omega) (by omega) w ht).mono fun _ _ ⟨h1, k, os, h2⟩ => ⟨h1, by rw [h2]; exact Lib.below_grow _ w (Nat.le_refl _) k os⟩
/-- a query of one Arg, of two, opened -/
theorem one_cells {w : World} {v : Value} {x : Ask} (h : Sl askR w v [x]) : ∃ b o c A m cc, v = .slice (some ⟨b, o, none⟩) 1 c ∧ Sl askR w (.slice A m cc) x.args ∧ w.cell? ⟨b, o, none⟩ = some (.int .i64 x.kind) ∧ w.cell? ⟨b, o + 1, none⟩ = some (.int .i64 x.n) ∧ w.cell? ⟨b, o + 2, none⟩ = some (.slice A m cc) := by
  obtain ⟨A, c, rfl, _, _, hA⟩ := h
  obtain ⟨b, o, rfl, hc⟩ := hA (by simp)
  obtain ⟨A, m, cc, h1, h2, h3, h4⟩ := askR.cells hc (k := 0) (x := x) rfl
  rw [Nat.zero_mul, Nat.add_zero] at h2 h3 h4
  exact ⟨b, o, c, A, m, cc, rfl, h1, h2, h3, h4⟩
theorem two_cells {w : World} {v : Value} {x y : Ask} (h : Sl askR w v [x, y]) : ∃ b o c A m cc B mm dd, v = .slice (some ⟨b, o, none⟩) 2 c ∧ Sl askR w (.slice A m cc) x.args ∧ w.cell? ⟨b, o, none⟩ = some (.int .i64 x.kind) ∧ w.cell? ⟨b, o + 1, none⟩ = some (.int .i64 x.n) ∧ w.cell? ⟨b, o + 2, none⟩ = some (.slice A m cc) ∧
    Sl askR w (.slice B mm dd) y.args ∧ w.cell? ⟨b, o + 3, none⟩ = some (.int .i64 y.kind) ∧ w.cell? ⟨b, o + 3 + 1, none⟩ = some (.int .i64 y.n) ∧ w.cell? ⟨b, o + 3 + 2, none⟩ = some (.slice B mm dd) := by
  obtain ⟨A, c, rfl, _, _, hA⟩ := h
  obtain ⟨b, o, rfl, hc⟩ := hA (by simp)
  obtain ⟨A, m, cc, h1, h2, h3, h4⟩ := askR.cells hc (k := 0) (x := x) rfl
  obtain ⟨B, mm, dd, k1, k2, k3, k4⟩ := askR.cells hc (k := 1) (x := y) rfl
  rw [Nat.zero_mul, Nat.add_zero] at h2 h3 h4
  rw [Nat.one_mul] at k2 k3 k4
  exact ⟨b, o, c, A, m, cc, B, mm, dd, rfl, h1, h2, h3, h4, k1, k2, k3, k4⟩

set_option maxRecDepth 20000 in
set_option maxHeartbeats 1000000 in
theorem sh1_any (n : Int) (A : Option Addr) (c : Nat) (w : World) (hn : -9999999 ≤ n ∧ n ≤ 9999999) (ht : Tab w) :
    Calls Tryd.prog 21 #[.agg #[.int .i64 1, .int .i64 n, .slice A 0 c]] w fun r w' => r = .returned (.string (textK 1 n [])) ∧ Bel w w' := by
  have HW := Lib.hid words_any
  have HIT := Lib.hid (fun W (hb : Bel w W) => itoa_any n W hn (ht.keep hb))
  have HQ := Lib.hid (Blk.new w 24 #[.int .i64 1, .int .i64 n, .slice A 0 c])
  have HB := Lib.hid ((Bel.rfl_ w).al (.cells #[.int .i64 1, .int .i64 n, .slice A 0 c] 24))
  have hws := wordB_size 1
  have hds := digB_size hn
  have HTX : Hid (textK 1 n [] = (wordB 1 ++ blankB) ++ (if n = -1 then anyB else digB n)) := Lib.hid (by unfold textK; simp [headB])
  clear ht hn
  go_enter Tryd.func21, Tryd.ntmps21
  go_upto_region 1 with fail
  generalize w.alloc (.cells #[.int .i64 1, .int .i64 n, .slice A 0 c] 24) = W0 at *
  generalize w.heap.size = Q at *
  go_cut [3] from 5 to 9 (fun s wx => s = .string (wordB 1) ∧ Hid (Bel W0 wx))
  case first =>
    have q0 := HQ.out.cell (i := 0) (v := .int .i64 1) rfl
    have HQC := Lib.hid (fun W (hb : Bel W0 W) => (HQ.out.keep hb).cell (i := 0) (v := .int .i64 1) rfl)
    clear HIT HB
    as_aux_lemma =>
      go_region_law (first | (go_simp; go_at_call 38; refine (HW.out _).mono ?_; rintro r w2 ⟨rfl, hw2, hb2⟩; have hbX : Hid (Bel W0 w2) := Lib.hid (Bel.tr (by repeat (first | exact Bel.rfl_ _ | apply Bel.dr)) hb2); have x1 : w2.cell? ⟨W0.heap.size, 1, none⟩ = some (.string (wordB 1)) := hw2.cell (k := 1) (by omega); have qx := HQC.out _ hbX.out; clear hb2 hw2))
      all_goals go_wp2
      all_goals go_meet
      all_goals exact ⟨rfl, hbX⟩
  case rest =>
  obtain ⟨rfl, hbc⟩ := hcut
  replace HB := Lib.hid (HB.out.tr hbc.out)
  replace HQ := Lib.hid (HQ.out.keep hbc.out)
  clear hbc HW
  generalize wordB 1 = s at *
  generalize digB n = d at *
  have q1 := HQ.out.cell (i := 1) (v := .int .i64 n) rfl
  go_wp2_with fail
  refine (HIT.out _ HB.out).mono ?_
  rintro r w3 ⟨rfl, hb3⟩
  replace HB := Lib.hid (HB.out.tr hb3)
  replace HQ := Lib.hid (HQ.out.keep hb3)
  clear hb3 q1 HIT
  have q0 := HQ.out.cell (i := 0) (v := .int .i64 1) rfl
  have q1 := HQ.out.cell (i := 1) (v := .int .i64 n) rfl
  have q2 := HQ.out.cell (i := 2) (v := .slice A 0 c) rfl
  have e1 : (⟨#[32]⟩ : ByteArray) = blankB := rfl
  have e2 : blankB.size = 1 := rfl
  have z1 : (s ++ blankB).size = s.size + 1 := by rw [ByteArray.size_append, e2]
  by_cases hm : n = -1
  · have hd1 : (n == -1) = true := by simpa using hm
    have HTY : Hid (textK 1 n [] = (s ++ blankB) ++ anyB) := Lib.hid (by rw [HTX.out, if_pos hm])
    have e3 : (⟨#[97, 110, 121]⟩ : ByteArray) = anyB := rfl
    have e4 : anyB.size = 3 := rfl
    clear hm
    go_wp2
    go_ret
    exact ⟨by rw [HTY.out]; rfl, HB.out⟩
  · have hd1 : (n == -1) = false := by simpa using hm
    have HTY : Hid (textK 1 n [] = (s ++ blankB) ++ d) := Lib.hid (by rw [HTX.out, if_neg hm])
    clear hm
    go_wp2
    go_ret
    exact ⟨by rw [HTY.out]; rfl, HB.out⟩

set_option maxRecDepth 20000 in
set_option maxHeartbeats 1000000 in
theorem sh2_any (n : Int) (A : Option Addr) (c : Nat) (w : World) (hn : -9999999 ≤ n ∧ n ≤ 9999999) (ht : Tab w) :
    Calls Tryd.prog 21 #[.agg #[.int .i64 2, .int .i64 n, .slice A 0 c]] w fun r w' => r = .returned (.string (textK 2 n [])) ∧ Bel w w' := by
  have HW := Lib.hid words_any
  have HIT := Lib.hid (fun W (hb : Bel w W) => itoa_any n W hn (ht.keep hb))
  have HQ := Lib.hid (Blk.new w 24 #[.int .i64 2, .int .i64 n, .slice A 0 c])
  have HB := Lib.hid ((Bel.rfl_ w).al (.cells #[.int .i64 2, .int .i64 n, .slice A 0 c] 24))
  have hws := wordB_size 2
  have hds := digB_size hn
  have HTX : Hid (textK 2 n [] = (wordB 2 ++ blankB) ++ (if n = -1 then anyB else digB n)) := Lib.hid (by unfold textK; simp [headB])
  clear ht hn
  go_enter Tryd.func21, Tryd.ntmps21
  go_upto_region 1 with fail
  generalize w.alloc (.cells #[.int .i64 2, .int .i64 n, .slice A 0 c] 24) = W0 at *
  generalize w.heap.size = Q at *
  go_cut [3] from 5 to 9 (fun s wx => s = .string (wordB 2) ∧ Hid (Bel W0 wx))
  case first =>
    have q0 := HQ.out.cell (i := 0) (v := .int .i64 2) rfl
    have HQC := Lib.hid (fun W (hb : Bel W0 W) => (HQ.out.keep hb).cell (i := 0) (v := .int .i64 2) rfl)
    clear HIT HB
    as_aux_lemma =>
      go_region_law (first | (go_simp; go_at_call 38; refine (HW.out _).mono ?_; rintro r w2 ⟨rfl, hw2, hb2⟩; have hbX : Hid (Bel W0 w2) := Lib.hid (Bel.tr (by repeat (first | exact Bel.rfl_ _ | apply Bel.dr)) hb2); have x1 : w2.cell? ⟨W0.heap.size, 2, none⟩ = some (.string (wordB 2)) := hw2.cell (k := 2) (by omega); have qx := HQC.out _ hbX.out; clear hb2 hw2))
      all_goals go_wp2
      all_goals go_meet
      all_goals exact ⟨rfl, hbX⟩
  case rest =>
  obtain ⟨rfl, hbc⟩ := hcut
  replace HB := Lib.hid (HB.out.tr hbc.out)
  replace HQ := Lib.hid (HQ.out.keep hbc.out)
  clear hbc HW
  generalize wordB 2 = s at *
  generalize digB n = d at *
  have q1 := HQ.out.cell (i := 1) (v := .int .i64 n) rfl
  go_wp2_with fail
  refine (HIT.out _ HB.out).mono ?_
  rintro r w3 ⟨rfl, hb3⟩
  replace HB := Lib.hid (HB.out.tr hb3)
  replace HQ := Lib.hid (HQ.out.keep hb3)
  clear hb3 q1 HIT
  have q0 := HQ.out.cell (i := 0) (v := .int .i64 2) rfl
  have q1 := HQ.out.cell (i := 1) (v := .int .i64 n) rfl
  have q2 := HQ.out.cell (i := 2) (v := .slice A 0 c) rfl
  have e1 : (⟨#[32]⟩ : ByteArray) = blankB := rfl
  have e2 : blankB.size = 1 := rfl
  have z1 : (s ++ blankB).size = s.size + 1 := by rw [ByteArray.size_append, e2]
  by_cases hm : n = -1
  · have hd1 : (n == -1) = true := by simpa using hm
    have HTY : Hid (textK 2 n [] = (s ++ blankB) ++ anyB) := Lib.hid (by rw [HTX.out, if_pos hm])
    have e3 : (⟨#[97, 110, 121]⟩ : ByteArray) = anyB := rfl
    have e4 : anyB.size = 3 := rfl
    clear hm
    go_wp2
    go_ret
    exact ⟨by rw [HTY.out]; rfl, HB.out⟩
  · have hd1 : (n == -1) = false := by simpa using hm
    have HTY : Hid (textK 2 n [] = (s ++ blankB) ++ d) := Lib.hid (by rw [HTX.out, if_neg hm])
    clear hm
    go_wp2
    go_ret
    exact ⟨by rw [HTY.out]; rfl, HB.out⟩

set_option maxRecDepth 20000 in
set_option maxHeartbeats 1000000 in
theorem sh3_any (n : Int) (A : Option Addr) (c : Nat) (w : World) (hn : -9999999 ≤ n ∧ n ≤ 9999999) (ht : Tab w) :
    Calls Tryd.prog 21 #[.agg #[.int .i64 3, .int .i64 n, .slice A 0 c]] w fun r w' => r = .returned (.string (textK 3 n [])) ∧ Bel w w' := by
  have HW := Lib.hid words_any
  have HIT := Lib.hid (fun W (hb : Bel w W) => itoa_any n W hn (ht.keep hb))
  have HQ := Lib.hid (Blk.new w 24 #[.int .i64 3, .int .i64 n, .slice A 0 c])
  have HB := Lib.hid ((Bel.rfl_ w).al (.cells #[.int .i64 3, .int .i64 n, .slice A 0 c] 24))
  have hws := wordB_size 3
  have hds := digB_size hn
  have HTX : Hid (textK 3 n [] = (wordB 3 ++ blankB) ++ (if n = -1 then anyB else digB n)) := Lib.hid (by unfold textK; simp [headB])
  clear ht hn
  go_enter Tryd.func21, Tryd.ntmps21
  go_upto_region 1 with fail
  generalize w.alloc (.cells #[.int .i64 3, .int .i64 n, .slice A 0 c] 24) = W0 at *
  generalize w.heap.size = Q at *
  go_cut [3] from 5 to 9 (fun s wx => s = .string (wordB 3) ∧ Hid (Bel W0 wx))
  case first =>
    have q0 := HQ.out.cell (i := 0) (v := .int .i64 3) rfl
    have HQC := Lib.hid (fun W (hb : Bel W0 W) => (HQ.out.keep hb).cell (i := 0) (v := .int .i64 3) rfl)
    clear HIT HB
    as_aux_lemma =>
      go_region_law (first | (go_simp; go_at_call 38; refine (HW.out _).mono ?_; rintro r w2 ⟨rfl, hw2, hb2⟩; have hbX : Hid (Bel W0 w2) := Lib.hid (Bel.tr (by repeat (first | exact Bel.rfl_ _ | apply Bel.dr)) hb2); have x1 : w2.cell? ⟨W0.heap.size, 3, none⟩ = some (.string (wordB 3)) := hw2.cell (k := 3) (by omega); have qx := HQC.out _ hbX.out; clear hb2 hw2))
      all_goals go_wp2
      all_goals go_meet
      all_goals exact ⟨rfl, hbX⟩
  case rest =>
  obtain ⟨rfl, hbc⟩ := hcut
  replace HB := Lib.hid (HB.out.tr hbc.out)
  replace HQ := Lib.hid (HQ.out.keep hbc.out)
  clear hbc HW
  generalize wordB 3 = s at *
  generalize digB n = d at *
  have q1 := HQ.out.cell (i := 1) (v := .int .i64 n) rfl
  go_wp2_with fail
  refine (HIT.out _ HB.out).mono ?_
  rintro r w3 ⟨rfl, hb3⟩
  replace HB := Lib.hid (HB.out.tr hb3)
  replace HQ := Lib.hid (HQ.out.keep hb3)
  clear hb3 q1 HIT
  have q0 := HQ.out.cell (i := 0) (v := .int .i64 3) rfl
  have q1 := HQ.out.cell (i := 1) (v := .int .i64 n) rfl
  have q2 := HQ.out.cell (i := 2) (v := .slice A 0 c) rfl
  have e1 : (⟨#[32]⟩ : ByteArray) = blankB := rfl
  have e2 : blankB.size = 1 := rfl
  have z1 : (s ++ blankB).size = s.size + 1 := by rw [ByteArray.size_append, e2]
  by_cases hm : n = -1
  · have hd1 : (n == -1) = true := by simpa using hm
    have HTY : Hid (textK 3 n [] = (s ++ blankB) ++ anyB) := Lib.hid (by rw [HTX.out, if_pos hm])
    have e3 : (⟨#[97, 110, 121]⟩ : ByteArray) = anyB := rfl
    have e4 : anyB.size = 3 := rfl
    clear hm
    go_wp2
    go_ret
    exact ⟨by rw [HTY.out]; rfl, HB.out⟩
  · have hd1 : (n == -1) = false := by simpa using hm
    have HTY : Hid (textK 3 n [] = (s ++ blankB) ++ d) := Lib.hid (by rw [HTX.out, if_neg hm])
    clear hm
    go_wp2
    go_ret
    exact ⟨by rw [HTY.out]; rfl, HB.out⟩

set_option maxRecDepth 20000 in
set_option maxHeartbeats 1000000 in
theorem sh4_any (n : Int) (A : Option Addr) (c : Nat) (w : World) (hn : -9999999 ≤ n ∧ n ≤ 9999999) (ht : Tab w) :
    Calls Tryd.prog 21 #[.agg #[.int .i64 4, .int .i64 n, .slice A 0 c]] w fun r w' => r = .returned (.string (textK 4 n [])) ∧ Bel w w' := by
  have HW := Lib.hid words_any
  have HIT := Lib.hid (fun W (hb : Bel w W) => itoa_any n W hn (ht.keep hb))
  have HQ := Lib.hid (Blk.new w 24 #[.int .i64 4, .int .i64 n, .slice A 0 c])
  have HB := Lib.hid ((Bel.rfl_ w).al (.cells #[.int .i64 4, .int .i64 n, .slice A 0 c] 24))
  have hws := wordB_size 4
  have hds := digB_size hn
  have HTX : Hid (textK 4 n [] = wordB 4) := Lib.hid (by unfold textK; simp [headB])
  clear ht hn
  go_enter Tryd.func21, Tryd.ntmps21
  go_upto_region 1 with fail
  generalize w.alloc (.cells #[.int .i64 4, .int .i64 n, .slice A 0 c] 24) = W0 at *
  generalize w.heap.size = Q at *
  go_cut [3] from 5 to 9 (fun s wx => s = .string (wordB 4) ∧ Hid (Bel W0 wx))
  case first =>
    have q0 := HQ.out.cell (i := 0) (v := .int .i64 4) rfl
    have HQC := Lib.hid (fun W (hb : Bel W0 W) => (HQ.out.keep hb).cell (i := 0) (v := .int .i64 4) rfl)
    clear HIT HB
    as_aux_lemma =>
      go_region_law (first | (go_simp; go_at_call 38; refine (HW.out _).mono ?_; rintro r w2 ⟨rfl, hw2, hb2⟩; have hbX : Hid (Bel W0 w2) := Lib.hid (Bel.tr (by repeat (first | exact Bel.rfl_ _ | apply Bel.dr)) hb2); have x1 : w2.cell? ⟨W0.heap.size, 4, none⟩ = some (.string (wordB 4)) := hw2.cell (k := 4) (by omega); have qx := HQC.out _ hbX.out; clear hb2 hw2))
      all_goals go_wp2
      all_goals go_meet
      all_goals exact ⟨rfl, hbX⟩
  case rest =>
  obtain ⟨rfl, hbc⟩ := hcut
  replace HB := Lib.hid (HB.out.tr hbc.out)
  replace HQ := Lib.hid (HQ.out.keep hbc.out)
  clear hbc HW
  generalize wordB 4 = s at *
  generalize digB n = d at *
  have q1 := HQ.out.cell (i := 1) (v := .int .i64 n) rfl
  go_wp2_with fail
  refine (HIT.out _ HB.out).mono ?_
  rintro r w3 ⟨rfl, hb3⟩
  replace HB := Lib.hid (HB.out.tr hb3)
  replace HQ := Lib.hid (HQ.out.keep hb3)
  clear hb3 q1 HIT
  have q0 := HQ.out.cell (i := 0) (v := .int .i64 4) rfl
  have q1 := HQ.out.cell (i := 1) (v := .int .i64 n) rfl
  have q2 := HQ.out.cell (i := 2) (v := .slice A 0 c) rfl
  have e1 : (⟨#[32]⟩ : ByteArray) = blankB := rfl
  have e2 : blankB.size = 1 := rfl
  have z1 : (s ++ blankB).size = s.size + 1 := by rw [ByteArray.size_append, e2]
  clear e1 z1
  go_wp2
  go_ret
  exact ⟨by rw [HTX.out]; rfl, HB.out⟩

set_option maxRecDepth 20000 in
set_option maxHeartbeats 1000000 in
theorem sh5_any (n : Int) (A : Option Addr) (c : Nat) (w : World) (hn : -9999999 ≤ n ∧ n ≤ 9999999) (ht : Tab w) :
    Calls Tryd.prog 21 #[.agg #[.int .i64 5, .int .i64 n, .slice A 0 c]] w fun r w' => r = .returned (.string (textK 5 n [])) ∧ Bel w w' := by
  have HW := Lib.hid words_any
  have HIT := Lib.hid (fun W (hb : Bel w W) => itoa_any n W hn (ht.keep hb))
  have HQ := Lib.hid (Blk.new w 24 #[.int .i64 5, .int .i64 n, .slice A 0 c])
  have HB := Lib.hid ((Bel.rfl_ w).al (.cells #[.int .i64 5, .int .i64 n, .slice A 0 c] 24))
  have hws := wordB_size 5
  have hds := digB_size hn
  have HTX : Hid (textK 5 n [] = (wordB 5 ++ blankB) ++ digB n) := Lib.hid (by unfold textK; simp [headB])
  clear ht hn
  go_enter Tryd.func21, Tryd.ntmps21
  go_upto_region 1 with fail
  generalize w.alloc (.cells #[.int .i64 5, .int .i64 n, .slice A 0 c] 24) = W0 at *
  generalize w.heap.size = Q at *
  go_cut [3] from 5 to 9 (fun s wx => s = .string (wordB 5) ∧ Hid (Bel W0 wx))
  case first =>
    have q0 := HQ.out.cell (i := 0) (v := .int .i64 5) rfl
    have HQC := Lib.hid (fun W (hb : Bel W0 W) => (HQ.out.keep hb).cell (i := 0) (v := .int .i64 5) rfl)
    clear HIT HB
    as_aux_lemma =>
      go_region_law (first | (go_simp; go_at_call 38; refine (HW.out _).mono ?_; rintro r w2 ⟨rfl, hw2, hb2⟩; have hbX : Hid (Bel W0 w2) := Lib.hid (Bel.tr (by repeat (first | exact Bel.rfl_ _ | apply Bel.dr)) hb2); have x1 : w2.cell? ⟨W0.heap.size, 5, none⟩ = some (.string (wordB 5)) := hw2.cell (k := 5) (by omega); have qx := HQC.out _ hbX.out; clear hb2 hw2))
      all_goals go_wp2
      all_goals go_meet
      all_goals exact ⟨rfl, hbX⟩
  case rest =>
  obtain ⟨rfl, hbc⟩ := hcut
  replace HB := Lib.hid (HB.out.tr hbc.out)
  replace HQ := Lib.hid (HQ.out.keep hbc.out)
  clear hbc HW
  generalize wordB 5 = s at *
  generalize digB n = d at *
  have q1 := HQ.out.cell (i := 1) (v := .int .i64 n) rfl
  go_wp2_with fail
  refine (HIT.out _ HB.out).mono ?_
  rintro r w3 ⟨rfl, hb3⟩
  replace HB := Lib.hid (HB.out.tr hb3)
  replace HQ := Lib.hid (HQ.out.keep hb3)
  clear hb3 q1 HIT
  have q0 := HQ.out.cell (i := 0) (v := .int .i64 5) rfl
  have q1 := HQ.out.cell (i := 1) (v := .int .i64 n) rfl
  have q2 := HQ.out.cell (i := 2) (v := .slice A 0 c) rfl
  have e1 : (⟨#[32]⟩ : ByteArray) = blankB := rfl
  have e2 : blankB.size = 1 := rfl
  have z1 : (s ++ blankB).size = s.size + 1 := by rw [ByteArray.size_append, e2]
  go_wp2
  go_ret
  exact ⟨by rw [HTX.out]; rfl, HB.out⟩

set_option maxRecDepth 20000 in
set_option maxHeartbeats 1000000 in
theorem sh6_any (n : Int) (A : Option Addr) (c : Nat) (w : World) (hn : -9999999 ≤ n ∧ n ≤ 9999999) (ht : Tab w) :
    Calls Tryd.prog 21 #[.agg #[.int .i64 6, .int .i64 n, .slice A 0 c]] w fun r w' => r = .returned (.string (textK 6 n [])) ∧ Bel w w' := by
  have HW := Lib.hid words_any
  have HIT := Lib.hid (fun W (hb : Bel w W) => itoa_any n W hn (ht.keep hb))
  have HQ := Lib.hid (Blk.new w 24 #[.int .i64 6, .int .i64 n, .slice A 0 c])
  have HB := Lib.hid ((Bel.rfl_ w).al (.cells #[.int .i64 6, .int .i64 n, .slice A 0 c] 24))
  have hws := wordB_size 6
  have hds := digB_size hn
  have HTX : Hid (textK 6 n [] = (wordB 6 ++ blankB) ++ digB n) := Lib.hid (by unfold textK; simp [headB])
  clear ht hn
  go_enter Tryd.func21, Tryd.ntmps21
  go_upto_region 1 with fail
  generalize w.alloc (.cells #[.int .i64 6, .int .i64 n, .slice A 0 c] 24) = W0 at *
  generalize w.heap.size = Q at *
  go_cut [3] from 5 to 9 (fun s wx => s = .string (wordB 6) ∧ Hid (Bel W0 wx))
  case first =>
    have q0 := HQ.out.cell (i := 0) (v := .int .i64 6) rfl
    have HQC := Lib.hid (fun W (hb : Bel W0 W) => (HQ.out.keep hb).cell (i := 0) (v := .int .i64 6) rfl)
    clear HIT HB
    as_aux_lemma =>
      go_region_law (first | (go_simp; go_at_call 38; refine (HW.out _).mono ?_; rintro r w2 ⟨rfl, hw2, hb2⟩; have hbX : Hid (Bel W0 w2) := Lib.hid (Bel.tr (by repeat (first | exact Bel.rfl_ _ | apply Bel.dr)) hb2); have x1 : w2.cell? ⟨W0.heap.size, 6, none⟩ = some (.string (wordB 6)) := hw2.cell (k := 6) (by omega); have qx := HQC.out _ hbX.out; clear hb2 hw2))
      all_goals go_wp2
      all_goals go_meet
      all_goals exact ⟨rfl, hbX⟩
  case rest =>
  obtain ⟨rfl, hbc⟩ := hcut
  replace HB := Lib.hid (HB.out.tr hbc.out)
  replace HQ := Lib.hid (HQ.out.keep hbc.out)
  clear hbc HW
  generalize wordB 6 = s at *
  generalize digB n = d at *
  have q1 := HQ.out.cell (i := 1) (v := .int .i64 n) rfl
  go_wp2_with fail
  refine (HIT.out _ HB.out).mono ?_
  rintro r w3 ⟨rfl, hb3⟩
  replace HB := Lib.hid (HB.out.tr hb3)
  replace HQ := Lib.hid (HQ.out.keep hb3)
  clear hb3 q1 HIT
  have q0 := HQ.out.cell (i := 0) (v := .int .i64 6) rfl
  have q1 := HQ.out.cell (i := 1) (v := .int .i64 n) rfl
  have q2 := HQ.out.cell (i := 2) (v := .slice A 0 c) rfl
  have e1 : (⟨#[32]⟩ : ByteArray) = blankB := rfl
  have e2 : blankB.size = 1 := rfl
  have z1 : (s ++ blankB).size = s.size + 1 := by rw [ByteArray.size_append, e2]
  go_wp2
  go_ret
  exact ⟨by rw [HTX.out]; rfl, HB.out⟩

set_option maxRecDepth 20000 in
set_option maxHeartbeats 1000000 in
theorem sh7_any (n : Int) (b o c : Nat) (x0 x1 : Int) (X : Option Addr) (m cc : Nat) (T : ByteArray) (w : World) (hn : -9999999 ≤ n ∧ n ≤ 9999999) (ht : Tab w) (h0 : w.cell? ⟨b, o, none⟩ = some (.int .i64 x0)) (h1 : w.cell? ⟨b, o + 1, none⟩ = some (.int .i64 x1)) (h2 : w.cell? ⟨b, o + 2, none⟩ = some (.slice X m cc)) (hT : T.size ≤ 450) (hr : ∀ W, Bel w W → Calls Tryd.prog 21 #[.agg #[.int .i64 x0, .int .i64 x1, .slice X m cc]] W fun r w' => r = .returned (.string T) ∧ Bel W w') :
    Calls Tryd.prog 21 #[.agg #[.int .i64 7, .int .i64 n, .slice (some ⟨b, o, none⟩) 1 c]] w fun r w' => r = .returned (.string (textK 7 n [T])) ∧ Bel w w' := by
  have HW := Lib.hid words_any
  have HIT := Lib.hid (fun W (hb : Bel w W) => itoa_any n W hn (ht.keep hb))
  have HQ := Lib.hid (Blk.new w 24 #[.int .i64 7, .int .i64 n, .slice (some ⟨b, o, none⟩) 1 c])
  have HB := Lib.hid ((Bel.rfl_ w).al (.cells #[.int .i64 7, .int .i64 n, .slice (some ⟨b, o, none⟩) 1 c] 24))
  have hws := wordB_size 7
  have hds := digB_size hn
  have HTX : Hid (textK 7 n [T] = (wordB 7 ++ blankB) ++ T) := Lib.hid (by unfold textK; simp [headB])
  have HC := Lib.hid (fun W (hb : Bel w W) => And.intro (hb.cell h0) (And.intro (hb.cell h1) (hb.cell h2)))
  have HR := Lib.hid hr
  clear ht hn hr h0 h1 h2
  go_enter Tryd.func21, Tryd.ntmps21
  go_upto_region 1 with fail
  generalize w.alloc (.cells #[.int .i64 7, .int .i64 n, .slice (some ⟨b, o, none⟩) 1 c] 24) = W0 at *
  generalize w.heap.size = Q at *
  go_cut [3] from 5 to 9 (fun s wx => s = .string (wordB 7) ∧ Hid (Bel W0 wx))
  case first =>
    have q0 := HQ.out.cell (i := 0) (v := .int .i64 7) rfl
    have HQC := Lib.hid (fun W (hb : Bel W0 W) => (HQ.out.keep hb).cell (i := 0) (v := .int .i64 7) rfl)
    clear HIT HB HC HR
    as_aux_lemma =>
      go_region_law (first | (go_simp; go_at_call 38; refine (HW.out _).mono ?_; rintro r w2 ⟨rfl, hw2, hb2⟩; have hbX : Hid (Bel W0 w2) := Lib.hid (Bel.tr (by repeat (first | exact Bel.rfl_ _ | apply Bel.dr)) hb2); have x1 : w2.cell? ⟨W0.heap.size, 7, none⟩ = some (.string (wordB 7)) := hw2.cell (k := 7) (by omega); have qx := HQC.out _ hbX.out; clear hb2 hw2))
      all_goals go_wp2
      all_goals go_meet
      all_goals exact ⟨rfl, hbX⟩
  case rest =>
  obtain ⟨rfl, hbc⟩ := hcut
  replace HB := Lib.hid (HB.out.tr hbc.out)
  replace HQ := Lib.hid (HQ.out.keep hbc.out)
  clear hbc HW
  generalize wordB 7 = s at *
  generalize digB n = d at *
  have q1 := HQ.out.cell (i := 1) (v := .int .i64 n) rfl
  go_wp2_with fail
  refine (HIT.out _ HB.out).mono ?_
  rintro r w3 ⟨rfl, hb3⟩
  replace HB := Lib.hid (HB.out.tr hb3)
  replace HQ := Lib.hid (HQ.out.keep hb3)
  clear hb3 q1 HIT
  have q0 := HQ.out.cell (i := 0) (v := .int .i64 7) rfl
  have q1 := HQ.out.cell (i := 1) (v := .int .i64 n) rfl
  have q2 := HQ.out.cell (i := 2) (v := .slice (some ⟨b, o, none⟩) 1 c) rfl
  have e1 : (⟨#[32]⟩ : ByteArray) = blankB := rfl
  have e2 : blankB.size = 1 := rfl
  have z1 : (s ++ blankB).size = s.size + 1 := by rw [ByteArray.size_append, e2]
  obtain ⟨x0, x1, x2⟩ := HC.out _ HB.out
  go_wp2_with fail
  refine (HR.out _ HB.out).mono ?_
  rintro r w4 ⟨rfl, hb4⟩
  replace HB := Lib.hid (HB.out.tr hb4)
  clear hb4 q0 q1 q2 x0 x1 x2 HR HC HQ
  go_wp2
  go_ret
  exact ⟨by rw [HTX.out]; rfl, HB.out⟩

end Go.Proofs.YtegknpffiaeohaaDoor
