/- The document's parser of trees in plain words. The document's scanning computes what is scanned. What tokens are that were scanned; what their digits tell; memory that grew. The document's reader: its small steps walked. The document's reader of a number: walked. Each lemma states its own conditions. -/
import Derived.Test.YtmfjlcpjemccmaaGreatDoorTts05
import Derived.Deep.RegionLawGrows
import Derived.Deep.DeepCutAuto
namespace Go.Proofs.YtmfjlcpjemccmaaGreatDoor
open Go.RowKit
/-- the text of the next token; none: there is none, or it has failed -/
def tx (l : List Tok) (p : Nat) (f : Bool) : ByteArray := if f then emp else match l[p]? with
 | some t => t.text
 | none => emp
/-- where the next token begins -/
def place (l : List Tok) (E : Nat) (p : Nat) : Int := match l[p]? with
 | some t => t.at_
 | none => E
def numB (s : ByteArray) : Int := s.data.toList.foldl (fun n b => 10 * n + (b.toNat : Int) - 48) 0
/-- where a reader stands, and whether it has failed -/
abbrev RS := Nat × Bool
def needD (l : List Tok) (s : ByteArray) (r : RS) : RS := if r.2 then r else if tx l r.1 false = s then (r.1 + 1, false) else (r.1, true)
def nameD (l : List Tok) (r : RS) : ByteArray × RS := if isName (tx l r.1 r.2) then (tx l r.1 r.2, (r.1 + 1, r.2)) else (emp, (r.1, true))
def digD (s : ByteArray) : Bool := decide (s ≠ emp) && isD (bt s 0)
def numD (l : List Tok) (r : RS) : Int × RS := if digD (tx l r.1 r.2) then (numB (tx l r.1 r.2), (r.1 + 1, r.2)) else (0, (r.1, true))
def failD (c : Bool) (r : RS) : RS := if c then (r.1, true) else r
def lparB : ByteArray := ⟨#[40]⟩
def rparB : ByteArray := ⟨#[41]⟩
def lsqB : ByteArray := ⟨#[91]⟩
def rsqB : ByteArray := ⟨#[93]⟩
def lcurB : ByteArray := ⟨#[123]⟩
def rcurB : ByteArray := ⟨#[125]⟩
def dashB : ByteArray := ⟨#[45]⟩
def zeroB : ByteArray := ⟨#[48]⟩
def eqB : ByteArray := ⟨#[61]⟩
def semiB : ByteArray := ⟨#[59]⟩
def commaB : ByteArray := ⟨#[44]⟩
def opsL : List ByteArray := [⟨#[43]⟩, ⟨#[45]⟩, ⟨#[42]⟩, ⟨#[47]⟩, ⟨#[37]⟩, ⟨#[60]⟩, ⟨#[61, 61]⟩]
def opB (i : Nat) : ByteArray := opsL.getD i emp
/-- the operator that stands here -/
def opD (l : List Tok) (r : RS) : Option Nat := (List.range 7).find? fun i => decide (tx l r.1 r.2 = opB i)
/-- an expression, in so many more brackets -/
def exprD (l : List Tok) (E : Nat) : Nat → RS → TE × RS
 | d, r =>
  if tx l r.1 r.2 = lparB then
   match d with
   | 0 => (.mk 1 (place l E r.1) 0 emp [], (r.1, true))
   | d + 1 =>
    let a := exprD l E d (needD l lparB r)
    let o := opD l a.2
    let r3 := match o with
     | none => (a.2.1, true)
     | some i => needD l (opB i) a.2
    let b := exprD l E d r3
    (.mk (match o with
     | none => 0
     | some i => 4 + (i : Int)) (place l E r.1) 0 emp [a.1, b.1], needD l rparB b.2)
  else if tx l r.1 r.2 = dashB then
   let r1 := needD l dashB r
   let m := numD l (failD (decide (tx l r1.1 r1.2 = zeroB)) r1)
   (.mk 1 (place l E r.1) (-m.1) emp [], m.2)
  else if digD (tx l r.1 r.2) then
   let m := numD l r
   (.mk 1 (place l E r.1) m.1 emp [], m.2)
  else
   let n := nameD l r
   if tx l n.2.1 n.2.2 = lsqB then
    match d with
    | 0 => (.mk 2 (place l E r.1) 0 n.1 [], (n.2.1, true))
    | d + 1 =>
     let a := exprD l E d (needD l lsqB n.2)
     (.mk 3 (place l E r.1) 0 n.1 [a.1], needD l rsqB a.2)
   else (.mk 2 (place l E r.1) 0 n.1 [], n.2)
def printB : ByteArray := ⟨#[112, 114, 105, 110, 116]⟩
def ifB : ByteArray := ⟨#[105, 102]⟩
def whileB : ByteArray := ⟨#[119, 104, 105, 108, 101]⟩
def elseB : ByteArray := ⟨#[101, 108, 115, 101]⟩
def readB : ByteArray := ⟨#[114, 101, 97, 100]⟩
def varB : ByteArray := ⟨#[118, 97, 114]⟩
def arrB : ByteArray := ⟨#[97, 114, 114]⟩
def funcB : ByteArray := ⟨#[102, 117, 110, 99]⟩
def mainB : ByteArray := ⟨#[109, 97, 105, 110]⟩
def returnB : ByteArray := ⟨#[114, 101, 116, 117, 114, 110]⟩
def zeroE : TE := .mk 0 0 0 emp []
/-- the text behind the next token -/
def tx1 (l : List Tok) (r : RS) : ByteArray := tx l (r.1 + 1) r.2
/-- arguments of a call: so many are there already -/
def argsD (l : List Tok) (E : Nat) : Nat → Nat → RS → List TE × RS
 | 0, _, r => ([], r)
 | n + 1, k, r =>
  if r.2 = true ∨ tx l r.1 r.2 = rparB then ([], r)
  else
   let r1 := if 0 < k then needD l commaB r else r
   let e := exprD l E 60 r1
   let r2 := failD (decide (tx l e.2.1 e.2.2 ≠ commaB ∧ tx l e.2.1 e.2.2 ≠ rparB)) e.2
   let m := argsD l E n (k + 1) r2
   (e.1 :: m.1, m.2)
/-- a command; blocks are read by blk -/
def cmdD (l : List Tok) (E : Nat) (blk : RS → List TC × RS) (r : RS) : TC × RS :=
 let at_ := place l E r.1
 let s := tx l r.1 r.2
 if s = printB then
  let e := exprD l E 60 (needD l s r)
  (.mk 5 at_ emp emp zeroE e.1 [] [] [], needD l semiB e.2)
 else if s = ifB ∨ s = whileB then
  let e := exprD l E 60 (needD l s r)
  let t := blk e.2
  if s = ifB ∧ tx l t.2.1 t.2.2 = elseB then
   let u := blk (needD l elseB t.2)
   (.mk 6 at_ emp emp zeroE e.1 [] t.1 u.1, u.2)
  else (.mk (if s = whileB then 7 else 6) at_ emp emp zeroE e.1 [] t.1 [], t.2)
 else
  let n := nameD l r
  if tx l n.2.1 n.2.2 = lsqB then
   let i := exprD l E 60 (needD l lsqB n.2)
   let e := exprD l E 60 (needD l eqB (needD l rsqB i.2))
   (.mk 2 at_ n.1 emp i.1 e.1 [] [] [], needD l semiB e.2)
  else
   let q := needD l eqB n.2
   if tx l q.1 q.2 = readB then (.mk 4 at_ n.1 emp zeroE zeroE [] [] [], needD l semiB (needD l readB q))
   else if isName (tx l q.1 q.2) = true ∧ tx1 l q = lparB then
    let o := nameD l q
    let m := argsD l E (l.length + 1) 0 (needD l lparB o.2)
    (.mk 3 at_ n.1 o.1 zeroE zeroE m.1 [] [], needD l semiB (needD l rparB m.2))
   else
    let e := exprD l E 60 q
    (.mk 1 at_ n.1 emp zeroE e.1 [] [] [], needD l semiB e.2)
/-- commands up to a word -/
def cmdsD (l : List Tok) (E : Nat) : Nat → ByteArray → RS → List TC × RS
 | 0, _, r => ([], r)
 | n + 1, s, r =>
  if r.2 = true ∨ tx l r.1 r.2 = s then ([], r)
  else
   let x := cmdD l E (fun q => let m := cmdsD l E n rcurB (needD l lcurB q); (m.1, needD l rcurB m.2)) r
   let m := cmdsD l E n s x.2
   (x.1 :: m.1, m.2)
def blockD (l : List Tok) (E n : Nat) (q : RS) : List TC × RS := ((cmdsD l E n rcurB (needD l lcurB q)).1, needD l rcurB (cmdsD l E n rcurB (needD l lcurB q)).2)
def varsD (l : List Tok) : Nat → RS → List TV × RS
 | 0, r => ([], r)
 | n + 1, r =>
  if r.2 = false ∧ (tx l r.1 r.2 = varB ∨ tx l r.1 r.2 = arrB) then
   let a := decide (tx l r.1 r.2 = arrB)
   let m := nameD l (needD l (tx l r.1 r.2) r)
   let k := if a then numD l (failD (decide (tx l m.2.1 m.2.2 = zeroB)) m.2) else (0, m.2)
   let v := varsD l n (needD l semiB k.2)
   (⟨m.1, k.1⟩ :: v.1, v.2)
  else ([], r)
def paramsD (l : List Tok) : Nat → Nat → RS → List ByteArray × RS
 | 0, _, r => ([], r)
 | n + 1, k, r =>
  if r.2 = true ∨ tx l r.1 r.2 = rparB then ([], r)
  else
   let m := nameD l (if 0 < k then needD l commaB r else r)
   let v := paramsD l n (k + 1) m.2
   (m.1 :: v.1, v.2)
/-- a function with a name -/
def funcD (l : List Tok) (E : Nat) (r : RS) : TF × RS :=
 let nm := nameD l (needD l funcB r)
 let ps := paramsD l (l.length + 1) 0 (needD l lparB nm.2)
 let vs := varsD l (l.length + 1) (needD l lcurB (needD l rparB ps.2))
 let cs := cmdsD l E (l.length + 1) returnB vs.2
 let e := exprD l E 60 (needD l returnB cs.2)
 (⟨place l E r.1, nm.1, ps.1, vs.1, cs.1, e.1⟩, needD l rcurB (needD l semiB e.2))
def funcsD (l : List Tok) (E : Nat) : Nat → RS → List TF × RS
 | 0, r => ([], r)
 | n + 1, r =>
  if r.2 = false ∧ tx l r.1 r.2 = funcB then
   let f := funcD l E r
   let m := funcsD l E n f.2
   (f.1 :: m.1, m.2)
  else ([], r)
/-- the whole tree, and where its reader ends -/
def treeD (l : List Tok) (E : Nat) : List TF × RS :=
 let fs := funcsD l E (l.length + 1) (0, false)
 let vs := varsD l (l.length + 1) (needD l lcurB (needD l mainB fs.2))
 let cs := cmdsD l E (l.length + 1) rcurB vs.2
 (fs.1 ++ [⟨place l E fs.2.1, emp, [], vs.1, cs.1, zeroE⟩], needD l rcurB cs.2)
/-- ParseOf -/
def parseD (s : ByteArray) : List TF × Int × Int :=
 if (scanOf s).2.2 = 0 then
  (if (treeD (scanOf s).1 s.size).2.2 = true ∨ (treeD (scanOf s).1 s.size).2.1 < (scanOf s).1.length then ([], place (scanOf s).1 s.size (treeD (scanOf s).1 s.size).2.1, 1)
  else if errT (treeD (scanOf s).1 s.size).1 = 0 then ((treeD (scanOf s).1 s.size).1, 0, 0) else ([], 0, errT (treeD (scanOf s).1 s.size).1))
 else ([], (scanOf s).2.1, (scanOf s).2.2)
theorem elTok : Elem Tryz.prog 37 43 3 32 := Elem.mk_ (z := .agg #[.int .i64 0, .int .i64 0, .string emp]) Tryz.underlying37 (by kernel_rfl) rfl (by decide)
theorem flat_snoc (acc : List Tok) (t : Tok) : (acc ++ [t]).flatMap Tok.cells = acc.flatMap Tok.cells ++ [.int .i64 t.kind, .int .i64 t.at_, .string t.text] := by
 rw [List.flatMap_append, List.flatMap_cons, List.flatMap_nil, List.append_nil]; rfl
def ScanRes (s : ByteArray) (w : World) (r : Ending) (w' : World) : Prop := ∃ v, r = .returned (.tuple #[v, .int .i64 (scanOf s).2.1, .int .i64 (scanOf s).2.2]) ∧ Sl tokR w' v (scanOf s).1 ∧ Bel w w'
theorem lit_true {s : ByteArray} {xs : List UInt8} (h : s = ⟨xs.toArray⟩) : (s.toList == xs) = true := by
 rw [toList_data, h]
 simp
theorem lit_false {s : ByteArray} {xs : List UInt8} (h : s ≠ ⟨xs.toArray⟩) : (s.toList == xs) = false := by
 rw [toList_data, beq_eq_false_iff_ne]
 intro e
 apply h
 cases s
 simp only [ByteArray.mk.injEq]
 exact Array.toList_inj.1 (by simpa using e)
/-- digits, one at least, seven at most -/
def NumOk (s : ByteArray) : Prop := 0 < s.size ∧ s.size ≤ 7 ∧ ∀ b ∈ s.data.toList, 48 ≤ b.toNat ∧ b.toNat ≤ 57
theorem numB_pow : ∀ (l : List UInt8) (a : Int) (c : Nat), (∀ b ∈ l, 48 ≤ b.toNat ∧ b.toNat ≤ 57) → 0 ≤ a → a < ((10 ^ c : Nat) : Int) → 0 ≤ l.foldl (fun n b => 10 * n + (b.toNat : Int) - 48) a ∧ l.foldl (fun n b => 10 * n + (b.toNat : Int) - 48) a < ((10 ^ (c + l.length) : Nat) : Int)
 | [], a, c, _, h0, h1 => ⟨h0, h1⟩
 | b :: l, a, c, h, h0, h1 => by
  have hb := h b (by simp)
  have := numB_pow l (10 * a + (b.toNat : Int) - 48) (c + 1) (fun x hx => h x (by simp [hx])) (by omega) (by rw [Nat.pow_succ]; generalize 10 ^ c = y at *; omega)
  rw [List.foldl_cons, List.length_cons, show c + (l.length + 1) = c + 1 + l.length by omega]
  exact this
theorem NumOk.bound {s : ByteArray} (h : NumOk s) : 0 ≤ numB s ∧ numB s ≤ 9999999 := by
 obtain ⟨h1, h2, h3⟩ := h
 have := numB_pow s.data.toList 0 0 h3 (by omega) (by decide)
 have hl : s.data.toList.length ≤ 7 := by simpa using h2
 have hm : 10 ^ (0 + s.data.toList.length) ≤ 10 ^ 7 := Nat.pow_le_pow_right (by omega) (by omega)
 unfold numB
 have h7 : 10 ^ 7 = 10000000 := by decide
 generalize 10 ^ (0 + s.data.toList.length) = y at *
 omega
/-- numbers are digits; nothing else begins with one -/
def TokOk (t : Tok) : Prop := (t.kind = 2 → NumOk t.text) ∧ 0 < t.text.size ∧ (t.kind ≠ 2 → isD (bt t.text 0) = false)
theorem grownBel {w0 w W : World} {g : Nat} (h0 : Bel w0 w) (hg : w0.heap.size ≤ g) (h : w.grownBy W (some g)) : Bel w0 W :=
 Below.grown h0 h h0.size (fun k hk => by
  have : g = k := Option.some.inj hk
  omega)
theorem isD_range {b : Nat} (h : isD b = true) : 48 ≤ b ∧ b ≤ 57 := by
 unfold isD at h
 simpa using h
theorem here_ok {s : ByteArray} {j : Nat} (h : tokErr s j = 0) : TokOk (tokHere s j) := by
 have hk := tokErr_kind h
 obtain ⟨hp1, hp2⟩ := tokAt_pos hk
 have hsz : (s.extract j (j + (tokAt s j).2)).size = (tokAt s j).2 := by rw [extract_size hp2]; omega
 have hb0 : bt (s.extract j (j + (tokAt s j).2)) 0 = bt s j := by rw [bt_extract _ _ _ _ hp2, if_pos (by omega), Nat.add_zero]
 refine ⟨fun h2 => ?_, by show 0 < (s.extract j (j + (tokAt s j).2)).size; omega, fun h2 => ?_⟩
 ·have h2 : (tokAt s j).1 = 2 := by
   have : ((tokAt s j).1 : Int) = 2 := h2
   omega
  have h7 : (tokAt s j).2 ≤ 7 := by
   unfold tokErr at h
   rw [if_neg hk] at h
   by_cases hb : (tokAt s j).1 = 1 ∧ 12 < (tokAt s j).2 ∨ (tokAt s j).1 = 2 ∧ 7 < (tokAt s j).2
   ·rw [if_pos hb] at h; omega
   ·omega
  refine ⟨by show 0 < (s.extract j (j + (tokAt s j).2)).size; omega, by show (s.extract j (j + (tokAt s j).2)).size ≤ 7; omega, fun b hb => ?_⟩
  obtain ⟨i, hiT, rfl⟩ := List.mem_iff_getElem.1 hb
  have hi : i < (s.extract j (j + (tokAt s j).2)).data.toList.length := hiT
  have hi2 : i < (tokAt s j).2 := by
   have hi' := hi
   rw [Array.length_toList] at hi'
   have : (s.extract j (j + (tokAt s j).2)).data.size = (s.extract j (j + (tokAt s j).2)).size := rfl
   omega
  have hbi : bt (s.extract j (j + (tokAt s j).2)) i = bt s (j + i) := by rw [bt_extract _ _ _ _ hp2, if_pos (by omega)]
  have hbv : bt (s.extract j (j + (tokAt s j).2)) i = ((s.extract j (j + (tokAt s j).2)).data.toList[i]'hi).toNat := by
   rw [bt_list, List.getElem?_eq_getElem hi]
   rfl
  have hd : isD (bt s (j + i)) = true := by
   have he := tokAt_bt s j
   by_cases h1 : isL (bt s j) = true
   ·rw [if_pos h1] at he; rw [he] at h2; simp at h2
   ·rw [if_neg h1] at he
    by_cases h3 : isD (bt s j) = true
    ·rw [if_pos h3] at he
     have hn : (tokAt s j).2 = runTo isD s (j + 1) - j := by rw [he]
     by_cases hi0 : i = 0
     ·rw [hi0, Nat.add_zero]; exact h3
     ·exact (runTo_in (s := s) isD_256 _ (j + 1) rfl).2 (j + i) (by omega) (by omega)
    ·rw [if_neg h3] at he
     by_cases h4 : bt s j = 61 ∧ bt s (j + 1) = 61
     ·rw [if_pos h4] at he; rw [he] at h2; simp at h2
     ·rw [if_neg h4] at he
      by_cases h5 : isS (bt s j) = true
      ·rw [if_pos h5] at he; rw [he] at h2; simp at h2
      ·rw [if_neg h5] at he; rw [he] at h2; simp at h2
  have := isD_range hd
  show 48 ≤ ((s.extract j (j + (tokAt s j).2)).data.toList[i]'hi).toNat ∧ ((s.extract j (j + (tokAt s j).2)).data.toList[i]'hi).toNat ≤ 57
  omega
 ·show isD (bt (s.extract j (j + (tokAt s j).2)) 0) = false
  rw [hb0]
  have h2 : (tokAt s j).1 ≠ 2 := fun e => h2 (by show ((tokAt s j).1 : Int) = 2; omega)
  cases hd : isD (bt s j) with
  | false => rfl
  | true =>
   exfalso
   have he := tokAt_bt s j
   have hr := isD_range hd
   by_cases h1 : isL (bt s j) = true
   ·unfold isL at h1
    simp only [Bool.and_eq_true, decide_eq_true_eq] at h1
    omega
   ·rw [if_neg h1, if_pos hd] at he
    rw [he] at h2
    exact h2 rfl
theorem toks_ok {s : ByteArray} : ∀ (l : List Tok) (i : Nat), Toks s i l → (∀ t ∈ l, TokOk t) ∧ l.length ≤ s.size - i
 | [], _, _ => ⟨by simp, by simp⟩
 | t :: ts, i, ⟨j, hj, he, ht, hr⟩ => by
  obtain ⟨h1, h2⟩ := toks_ok ts _ hr
  obtain ⟨hp1, hp2⟩ := tokAt_pos (tokErr_kind he)
  refine ⟨fun x hx => ?_, by rw [List.length_cons]; omega⟩
  rcases List.mem_cons.1 hx with rfl | hx
  ·rw [ht]; exact here_ok he
  ·exact h1 x hx
theorem scan_ok {s : ByteArray} (h : (scanOf s).2.2 = 0) : (∀ t ∈ (scanOf s).1, TokOk t) ∧ (scanOf s).1.length ≤ 6000 ∧ s.size ≤ 6000 := by
 obtain ⟨h1, h2, -⟩ := scanOf_toks (s := s) (l := (scanOf s).1) (a := (scanOf s).2.1) (by rw [← h])
 obtain ⟨h3, h4⟩ := toks_ok _ _ h2
 exact ⟨h3, by omega, h1⟩
theorem grownS_one (w : World) (b i : Nat) (u : Value) : w.grownBy (w.setCell ⟨b, i, none⟩ u) (some b) :=
 ⟨rfl, rfl, rfl, by simp, fun k _ hk => heap_setCell_other w _ k u (fun e => hk (by rw [e]))⟩
theorem grownS_drN {w wr : World} {r : Option Nat} (h : w.grownBy wr r) (n : Nat) : w.grownBy (wr.drewN n) r := h.trans (((Bel.rfl_ wr).drN n).grown r)
theorem grownS_set {w wr : World} {g : Nat} (h : w.grownBy wr (some g)) (i : Nat) (v : Value) : w.grownBy (wr.setCell ⟨g, i, none⟩ v) (some g) := h.trans (grownS_one wr g i v)
theorem Blk.far_ {w : World} {g R : Nat} {t : TypeId} {cs : Array Value} (h : Blk w g t cs) (hne : g ≠ R) (i : Nat) (u : Value) : Blk (w.setCell ⟨R, i, none⟩ u) g t cs := (heap_setCell_other w ⟨R, i, none⟩ g u hne).trans h
theorem grownNew {w W : World} {g R : Nat} (h : w.grownBy W (some g)) (hR : w.heap.size ≤ R) (i : Nat) (u : Value) : w.grownBy (W.setCell ⟨R, i, none⟩ u) (some g) := by
 have k := (Below.refl R W).setCell (p := ⟨R, i, none⟩) (Nat.le_refl _) u
 exact ⟨k.os.trans h.os, k.tape.trans h.tape, k.output.trans h.output, Nat.le_trans h.size k.size, fun x hx hne => (k.block x (by omega)).trans (h.block x hx hne)⟩
theorem place_some {l : List Tok} {E p : Nat} {t : Tok} (h : l[p]? = some t) : place l E p = t.at_ := by unfold place; rw [h]
theorem place_none {l : List Tok} {E p : Nat} (h : ¬ p < l.length) : place l E p = E := by unfold place; rw [List.getElem?_eq_none (by omega)]
theorem tx_some {l : List Tok} {p : Nat} {f : Bool} (h : tx l p f ≠ emp) : ∃ t, l[p]? = some t ∧ tx l p f = t.text ∧ f = false := by
 unfold tx at h ⊢
 cases f with
 | true => exact absurd rfl h
 | false =>
  cases hx : l[p]? with
  | none => rw [hx] at h; exact absurd rfl h
  | some t => exact ⟨t, rfl, by rw [if_neg (by decide)], rfl⟩
end Go.Proofs.YtmfjlcpjemccmaaGreatDoor
