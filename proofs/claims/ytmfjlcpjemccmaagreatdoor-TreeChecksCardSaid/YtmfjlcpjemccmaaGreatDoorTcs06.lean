/- Tokens in memory; whether two lists of tokens are one. Tokens joined, in plain words: what is joined is scanned as it was. Trees in plain words: how great they are, what is wrong with them, their texts. The document's parser of trees in plain words. Each lemma states its own conditions. -/
import Derived.Test.YtmfjlcpjemccmaaGreatDoorTcs05
import Derived.Outline
import Derived.Deep.QuietTactic
import Derived.BigQuiet
import Derived.WalkLawsBesides
import Derived.WalkSpells
import Derived.Test.YtmfjlcpjemccmaaGreatDoorTcs02
namespace Go.Proofs.YtmfjlcpjemccmaaGreatDoor
open Go.RowKit
def Tok.cells (t : Tok) : List Value := [.int .i64 t.kind, .int .i64 t.at_, .string t.text]
def tokR : Rep Tok where
 size := 3
 R _ cs e := cs = e.cells
 len h := by subst h; rfl
 keep _ h := h
def TokAtC (w : World) (b o : Nat) (e : Tok) : Prop := w.cell? ⟨b, o, none⟩ = some (.int .i64 e.kind) ∧ w.cell? ⟨b, o + 1, none⟩ = some (.int .i64 e.at_) ∧ w.cell? ⟨b, o + 2, none⟩ = some (.string e.text)
theorem tokR.cells {w : World} {b o : Nat} {xs : List Tok} (h : ∀ k x, xs[k]? = some x → tokR.At w b (o + k * tokR.size) x) {k : Nat} {x : Tok} (hk : xs[k]? = some x) : TokAtC w b (o + k * 3) x := by
 obtain ⟨cs, hc, hcs⟩ := h k x hk
 have e : cs = x.cells := hc
 subst e
 exact ⟨hcs 0 _ rfl, hcs 1 _ rfl, hcs 2 _ rfl⟩
theorem flat_cut {α : Type} {f : α → List Value} {n : Nat} (hf : ∀ x, (f x).length = n) : ∀ (xs : List α) (k : Nat) (x : α), xs[k]? = some x → ((xs.flatMap f).drop (k * n)).take n = f x
 | [], k, x, h => by simp at h
 | y :: ys, 0, x, h => by
  obtain rfl : y = x := by simpa using h
  rw [List.flatMap_cons, Nat.zero_mul, List.drop_zero, List.take_append_of_le_length (by rw [hf]; exact Nat.le_refl _), List.take_of_length_le (by rw [hf]; exact Nat.le_refl _)]
 | y :: ys, k + 1, x, h => by
  rw [List.flatMap_cons, List.drop_append, List.drop_of_length_le (by rw [hf, Nat.add_mul]; omega), List.nil_append, hf, show (k + 1) * n - n = k * n by rw [Nat.add_mul]; omega]
  exact flat_cut hf ys k x (by simpa using h)
theorem Sl.own_tok {w : World} {base : Nat} {e : TypeId} {v : Value} {n : Nat} {xs : List Tok} (h : w.ownsRow base e 3 v n (xs.flatMap Tok.cells)) (hn : n = xs.length) : Sl tokR w v xs :=
 Sl.own (r := tokR) h hn fun k x hx => flat_cut (n := 3) (fun _ => rfl) xs k x hx
def sp : ByteArray := ⟨#[32]⟩
def emp : ByteArray := ⟨#[]⟩
mutual
/-- how many parts; more than m is enough -/
def TE.size : TE → Int → Int
 | .mk _ _ _ _ args, m => sizeE args 1 m
def sizeE : List TE → Int → Int → Int
 | [], a, _ => a
 | x :: xs, a, m => if m < a then a else sizeE xs (a + x.size (m - a)) m
end
theorem sizeE_le {xs : List TE} (h : ∀ x ∈ xs, ∀ m, 0 ≤ m → 1 ≤ x.size m ∧ x.size m ≤ m + 1) : ∀ a m, 1 ≤ a → a ≤ m + 1 → 1 ≤ sizeE xs a m ∧ sizeE xs a m ≤ m + 1 := by
 induction xs with
 | nil => intro a m h1 h2; rw [sizeE]; exact ⟨h1, h2⟩
 | cons x xs ih =>
  intro a m h1 h2
  rw [sizeE]
  split
  ·exact ⟨h1, h2⟩
  ·obtain ⟨h3, h4⟩ := h x (by simp) (m - a) (by omega)
   exact ih (fun y hy => h y (by simp [hy])) _ _ (by omega) (by omega)
theorem TE.size_le : ∀ q : TE, ∀ m, 0 ≤ m → 1 ≤ q.size m ∧ q.size m ≤ m + 1 :=
 TE.ind fun k a n s args ih m hm => by rw [TE.size]; exact sizeE_le ih 1 m (by omega) (by omega)
theorem sizeE_drop {args : List TE} {k : Nat} {x : TE} (hx : args[k]? = some x) (a m : Int) : sizeE (args.drop k) a m = if m < a then a else sizeE (args.drop (k + 1)) (a + x.size (m - a)) m := by
 obtain ⟨hl, rfl⟩ := List.getElem?_eq_some_iff.1 hx
 rw [List.drop_eq_getElem_cons hl, sizeE]
theorem sizeE_end {args : List TE} {k : Nat} (h : args.length ≤ k) (a m : Int) : sizeE (args.drop k) a m = a := by
 rw [List.drop_eq_nil_of_le h, sizeE]
/-- too great? -/
def TE.great (e : TE) : Bool := decide (15 < e.size 15)
mutual
/-- is nothing in a command too great, nor too deep? -/
def TC.fine : TC → Int → Bool
 | .mk _ _ _ _ i e args thn els, d => !i.great && !e.great && decide (args.length ≤ 3) && !args.any TE.great && fineL thn (d + 1) && fineL els (d + 1)
def fineL : List TC → Int → Bool
 | [], _ => true
 | x :: xs, d => decide (d ≤ 5) && x.fine d && fineL xs d
end
mutual
/-- how many commands -/
def TC.cnt : TC → Nat
 | .mk _ _ _ _ _ _ _ thn els => 1 + cntL thn + cntL els
def cntL : List TC → Nat
 | [] => 0
 | x :: xs => x.cnt + cntL xs
end
theorem TC.fine_eq (x : TC) (d : Int) : x.fine d = (!x.index.great && !x.expr.great && decide (x.args.length ≤ 3) && !x.args.any TE.great && fineL x.thn (d + 1) && fineL x.els (d + 1)) := by
 cases x
 rw [TC.fine]
 rfl
theorem TC.cnt_eq (x : TC) : x.cnt = 1 + cntL x.thn + cntL x.els := by
 cases x
 rw [TC.cnt]
 rfl
theorem fineL_drop {l : List TC} {k : Nat} {x : TC} (hx : l[k]? = some x) (d : Int) : fineL (l.drop k) d = (decide (d ≤ 5) && x.fine d && fineL (l.drop (k + 1)) d) := by
 obtain ⟨hl, rfl⟩ := List.getElem?_eq_some_iff.1 hx
 rw [List.drop_eq_getElem_cons hl, fineL]
theorem cntL_drop {l : List TC} {k : Nat} {x : TC} (hx : l[k]? = some x) : cntL (l.drop k) = x.cnt + cntL (l.drop (k + 1)) := by
 obtain ⟨hl, rfl⟩ := List.getElem?_eq_some_iff.1 hx
 rw [List.drop_eq_getElem_cons hl, cntL]
theorem fineL_end {l : List TC} {k : Nat} (h : l.length ≤ k) (d : Int) : fineL (l.drop k) d = true := by rw [List.drop_eq_nil_of_le h, fineL]
theorem cntL_end {l : List TC} {k : Nat} (h : l.length ≤ k) : cntL (l.drop k) = 0 := by rw [List.drop_eq_nil_of_le h, cntL]
def TF.big (f : TF) : Bool := decide (3 < f.params.length) || decide (6 < f.vars.length) || f.result.great
/-- is there too much of something? -/
def manyL (l : List TF) : Bool := l.any TF.big || !l.all (fun f => fineL f.cmds 1) || decide (40 < (l.map fun f => cntL f.cmds).sum)
def many (l : List TF) : Bool := decide (6 < l.length) || manyL l
/-- words that are no names -/
def wordsT : List ByteArray := [⟨#[102, 117, 110, 99]⟩, ⟨#[109, 97, 105, 110]⟩, ⟨#[118, 97, 114]⟩, ⟨#[97, 114, 114]⟩, ⟨#[114, 101, 97, 100]⟩, ⟨#[112, 114, 105, 110, 116]⟩, ⟨#[105, 102]⟩, ⟨#[101, 108, 115, 101]⟩, ⟨#[119, 104, 105, 108, 101]⟩, ⟨#[114, 101, 116, 117, 114, 110]⟩]
def isWord (s : ByteArray) : Bool := wordsT.any fun x => decide (x = s)
def isName (s : ByteArray) : Bool := isTok 1 s && !isWord s
/-- how many Args -/
def arityE (k : Int) : Int := if k < 1 ∨ 10 < k then -1 else if k ≤ 2 then 0 else if k = 3 then 1 else 2
def TE.none_ (e : TE) : Bool := decide (e.kind = 0) && decide (e.n = 0) && decide (e.name = emp) && decide (e.args.length = 0)
mutual
/-- is an expression right? -/
def TE.ok : TE → Bool
 | .mk k _ n s args => decide (arityE k = (args.length : Int)) && (if k = 2 ∨ k = 3 then isName s else decide (s = emp)) && (if k = 1 then decide (-9999999 ≤ n ∧ n ≤ 9999999) else decide (n = 0)) && okEs args
def okEs : List TE → Bool
 | [] => true
 | x :: xs => x.ok && okEs xs
end
theorem okEs_all (l : List TE) : okEs l = l.all TE.ok := by
 induction l with
 | nil => rfl
 | cons x xs ih => rw [okEs, List.all_cons, ih]
theorem TE.ok_eq (e : TE) : e.ok = (decide (arityE e.kind = (e.args.length : Int)) && (if e.kind = 2 ∨ e.kind = 3 then isName e.name else decide (e.name = emp)) && (if e.kind = 1 then decide (-9999999 ≤ e.n ∧ e.n ≤ 9999999) else decide (e.n = 0)) && e.args.all TE.ok) := by
 cases e
 rw [TE.ok, okEs_all]
 rfl
mutual
/-- is a command right? -/
def TC.ok : TC → Bool
 | .mk k _ s t i e args thn els => decide (1 ≤ k ∧ k ≤ 7) && (if k ≤ 4 then isName s else decide (s = emp)) && (if k = 3 then isName t else decide (t = emp)) && (if k = 2 then i.ok else i.none_) && (if k = 3 ∨ k = 4 then e.none_ else e.ok) &&
  (if k = 3 then args.all TE.ok else decide (args.length = 0)) && (if 6 ≤ k then okCs thn else decide (thn.length = 0)) && (if k = 6 then okCs els else decide (els.length = 0))
def okCs : List TC → Bool
 | [] => true
 | x :: xs => x.ok && okCs xs
end
theorem okCs_all (l : List TC) : okCs l = l.all TC.ok := by
 induction l with
 | nil => rfl
 | cons x xs ih => rw [okCs, List.all_cons, ih]
theorem TC.ok_eq (x : TC) : x.ok = (decide (1 ≤ x.kind ∧ x.kind ≤ 7) && (if x.kind ≤ 4 then isName x.name else decide (x.name = emp)) && (if x.kind = 3 then isName x.other else decide (x.other = emp)) && (if x.kind = 2 then x.index.ok else x.index.none_) && (if x.kind = 3 ∨ x.kind = 4 then x.expr.none_ else x.expr.ok) &&
  (if x.kind = 3 then x.args.all TE.ok else decide (x.args.length = 0)) && (if 6 ≤ x.kind then x.thn.all TC.ok else decide (x.thn.length = 0)) && (if x.kind = 6 then x.els.all TC.ok else decide (x.els.length = 0))) := by
 cases x
 rw [TC.ok, okCs_all, okCs_all]
 rfl
def TV.ok (v : TV) : Bool := isName v.name && decide (0 ≤ v.size ∧ v.size ≤ 9999999)
def TF.ok (f : TF) (main : Bool) : Bool :=
 (if main then decide (f.name = emp) && f.result.none_ && decide (f.params.length = 0) else isName f.name && f.result.ok) && f.params.all isName && f.vars.all TV.ok && f.cmds.all TC.ok
/-- are all functions right, the last of which is main? -/
def okFs : List TF → Bool
 | [] => true
 | [f] => f.ok true
 | f :: g :: l => f.ok false && okFs (g :: l)
/-- Check -/
def errT (l : List TF) : Int := if many l then 2 else if l.length = 0 then 1 else if okFs l then 0 else 1
/-- the text of the next token; none: there is none, or it has failed -/
def tx (l : List Tok) (p : Nat) (f : Bool) : ByteArray := if f then emp else match l[p]? with
 | some t => t.text
 | none => emp
/-- where the next token begins -/
def place (l : List Tok) (E : Nat) (p : Nat) : Int := match l[p]? with
 | some t => t.at_
 | none => E
def numB (s : ByteArray) : Int := s.data.toList.foldl (fun n b => 10 * n + (b.toNat : Int) - 48) 0
/-- where a reader stands, and whether it has failed -/
abbrev RS := Nat × Bool
def needD (l : List Tok) (s : ByteArray) (r : RS) : RS := if r.2 then r else if tx l r.1 false = s then (r.1 + 1, false) else (r.1, true)
def nameD (l : List Tok) (r : RS) : ByteArray × RS := if isName (tx l r.1 r.2) then (tx l r.1 r.2, (r.1 + 1, r.2)) else (emp, (r.1, true))
def digD (s : ByteArray) : Bool := decide (s ≠ emp) && isD (bt s 0)
def numD (l : List Tok) (r : RS) : Int × RS := if digD (tx l r.1 r.2) then (numB (tx l r.1 r.2), (r.1 + 1, r.2)) else (0, (r.1, true))
def failD (c : Bool) (r : RS) : RS := if c then (r.1, true) else r
def lparB : ByteArray := ⟨#[40]⟩
def rparB : ByteArray := ⟨#[41]⟩
def lsqB : ByteArray := ⟨#[91]⟩
def rsqB : ByteArray := ⟨#[93]⟩
def lcurB : ByteArray := ⟨#[123]⟩
def rcurB : ByteArray := ⟨#[125]⟩
def dashB : ByteArray := ⟨#[45]⟩
def zeroB : ByteArray := ⟨#[48]⟩
def eqB : ByteArray := ⟨#[61]⟩
def semiB : ByteArray := ⟨#[59]⟩
def commaB : ByteArray := ⟨#[44]⟩
def opsL : List ByteArray := [⟨#[43]⟩, ⟨#[45]⟩, ⟨#[42]⟩, ⟨#[47]⟩, ⟨#[37]⟩, ⟨#[60]⟩, ⟨#[61, 61]⟩]
def opB (i : Nat) : ByteArray := opsL.getD i emp
/-- the operator that stands here -/
def opD (l : List Tok) (r : RS) : Option Nat := (List.range 7).find? fun i => decide (tx l r.1 r.2 = opB i)
/-- an expression, in so many more brackets -/
def exprD (l : List Tok) (E : Nat) : Nat → RS → TE × RS
 | d, r =>
  if tx l r.1 r.2 = lparB then
   match d with
   | 0 => (.mk 1 (place l E r.1) 0 emp [], (r.1, true))
   | d + 1 =>
    let a := exprD l E d (needD l lparB r)
    let o := opD l a.2
    let r3 := match o with
     | none => (a.2.1, true)
     | some i => needD l (opB i) a.2
    let b := exprD l E d r3
    (.mk (match o with
     | none => 0
     | some i => 4 + (i : Int)) (place l E r.1) 0 emp [a.1, b.1], needD l rparB b.2)
  else if tx l r.1 r.2 = dashB then
   let r1 := needD l dashB r
   let m := numD l (failD (decide (tx l r1.1 r1.2 = zeroB)) r1)
   (.mk 1 (place l E r.1) (-m.1) emp [], m.2)
  else if digD (tx l r.1 r.2) then
   let m := numD l r
   (.mk 1 (place l E r.1) m.1 emp [], m.2)
  else
   let n := nameD l r
   if tx l n.2.1 n.2.2 = lsqB then
    match d with
    | 0 => (.mk 2 (place l E r.1) 0 n.1 [], (n.2.1, true))
    | d + 1 =>
     let a := exprD l E d (needD l lsqB n.2)
     (.mk 3 (place l E r.1) 0 n.1 [a.1], needD l rsqB a.2)
   else (.mk 2 (place l E r.1) 0 n.1 [], n.2)
def printB : ByteArray := ⟨#[112, 114, 105, 110, 116]⟩
def ifB : ByteArray := ⟨#[105, 102]⟩
def whileB : ByteArray := ⟨#[119, 104, 105, 108, 101]⟩
def elseB : ByteArray := ⟨#[101, 108, 115, 101]⟩
def readB : ByteArray := ⟨#[114, 101, 97, 100]⟩
def varB : ByteArray := ⟨#[118, 97, 114]⟩
def arrB : ByteArray := ⟨#[97, 114, 114]⟩
def funcB : ByteArray := ⟨#[102, 117, 110, 99]⟩
def mainB : ByteArray := ⟨#[109, 97, 105, 110]⟩
def returnB : ByteArray := ⟨#[114, 101, 116, 117, 114, 110]⟩
def zeroE : TE := .mk 0 0 0 emp []
/-- the text behind the next token -/
def tx1 (l : List Tok) (r : RS) : ByteArray := tx l (r.1 + 1) r.2
/-- arguments of a call: so many are there already -/
def argsD (l : List Tok) (E : Nat) : Nat → Nat → RS → List TE × RS
 | 0, _, r => ([], r)
 | n + 1, k, r =>
  if r.2 = true ∨ tx l r.1 r.2 = rparB then ([], r)
  else
   let r1 := if 0 < k then needD l commaB r else r
   let e := exprD l E 60 r1
   let r2 := failD (decide (tx l e.2.1 e.2.2 ≠ commaB ∧ tx l e.2.1 e.2.2 ≠ rparB)) e.2
   let m := argsD l E n (k + 1) r2
   (e.1 :: m.1, m.2)
/-- a command; blocks are read by blk -/
def cmdD (l : List Tok) (E : Nat) (blk : RS → List TC × RS) (r : RS) : TC × RS :=
 let at_ := place l E r.1
 let s := tx l r.1 r.2
 if s = printB then
  let e := exprD l E 60 (needD l s r)
  (.mk 5 at_ emp emp zeroE e.1 [] [] [], needD l semiB e.2)
 else if s = ifB ∨ s = whileB then
  let e := exprD l E 60 (needD l s r)
  let t := blk e.2
  if s = ifB ∧ tx l t.2.1 t.2.2 = elseB then
   let u := blk (needD l elseB t.2)
   (.mk 6 at_ emp emp zeroE e.1 [] t.1 u.1, u.2)
  else (.mk (if s = whileB then 7 else 6) at_ emp emp zeroE e.1 [] t.1 [], t.2)
 else
  let n := nameD l r
  if tx l n.2.1 n.2.2 = lsqB then
   let i := exprD l E 60 (needD l lsqB n.2)
   let e := exprD l E 60 (needD l eqB (needD l rsqB i.2))
   (.mk 2 at_ n.1 emp i.1 e.1 [] [] [], needD l semiB e.2)
  else
   let q := needD l eqB n.2
   if tx l q.1 q.2 = readB then (.mk 4 at_ n.1 emp zeroE zeroE [] [] [], needD l semiB (needD l readB q))
   else if isName (tx l q.1 q.2) = true ∧ tx1 l q = lparB then
    let o := nameD l q
    let m := argsD l E (l.length + 1) 0 (needD l lparB o.2)
    (.mk 3 at_ n.1 o.1 zeroE zeroE m.1 [] [], needD l semiB (needD l rparB m.2))
   else
    let e := exprD l E 60 q
    (.mk 1 at_ n.1 emp zeroE e.1 [] [] [], needD l semiB e.2)
/-- commands up to a word -/
def cmdsD (l : List Tok) (E : Nat) : Nat → ByteArray → RS → List TC × RS
 | 0, _, r => ([], r)
 | n + 1, s, r =>
  if r.2 = true ∨ tx l r.1 r.2 = s then ([], r)
  else
   let x := cmdD l E (fun q => let m := cmdsD l E n rcurB (needD l lcurB q); (m.1, needD l rcurB m.2)) r
   let m := cmdsD l E n s x.2
   (x.1 :: m.1, m.2)
def blockD (l : List Tok) (E n : Nat) (q : RS) : List TC × RS := ((cmdsD l E n rcurB (needD l lcurB q)).1, needD l rcurB (cmdsD l E n rcurB (needD l lcurB q)).2)
def varsD (l : List Tok) : Nat → RS → List TV × RS
 | 0, r => ([], r)
 | n + 1, r =>
  if r.2 = false ∧ (tx l r.1 r.2 = varB ∨ tx l r.1 r.2 = arrB) then
   let a := decide (tx l r.1 r.2 = arrB)
   let m := nameD l (needD l (tx l r.1 r.2) r)
   let k := if a then numD l (failD (decide (tx l m.2.1 m.2.2 = zeroB)) m.2) else (0, m.2)
   let v := varsD l n (needD l semiB k.2)
   (⟨m.1, k.1⟩ :: v.1, v.2)
  else ([], r)
def paramsD (l : List Tok) : Nat → Nat → RS → List ByteArray × RS
 | 0, _, r => ([], r)
 | n + 1, k, r =>
  if r.2 = true ∨ tx l r.1 r.2 = rparB then ([], r)
  else
   let m := nameD l (if 0 < k then needD l commaB r else r)
   let v := paramsD l n (k + 1) m.2
   (m.1 :: v.1, v.2)
/-- a function with a name -/
def funcD (l : List Tok) (E : Nat) (r : RS) : TF × RS :=
 let nm := nameD l (needD l funcB r)
 let ps := paramsD l (l.length + 1) 0 (needD l lparB nm.2)
 let vs := varsD l (l.length + 1) (needD l lcurB (needD l rparB ps.2))
 let cs := cmdsD l E (l.length + 1) returnB vs.2
 let e := exprD l E 60 (needD l returnB cs.2)
 (⟨place l E r.1, nm.1, ps.1, vs.1, cs.1, e.1⟩, needD l rcurB (needD l semiB e.2))
def funcsD (l : List Tok) (E : Nat) : Nat → RS → List TF × RS
 | 0, r => ([], r)
 | n + 1, r =>
  if r.2 = false ∧ tx l r.1 r.2 = funcB then
   let f := funcD l E r
   let m := funcsD l E n f.2
   (f.1 :: m.1, m.2)
  else ([], r)
/-- the whole tree, and where its reader ends -/
def treeD (l : List Tok) (E : Nat) : List TF × RS :=
 let fs := funcsD l E (l.length + 1) (0, false)
 let vs := varsD l (l.length + 1) (needD l lcurB (needD l mainB fs.2))
 let cs := cmdsD l E (l.length + 1) rcurB vs.2
 (fs.1 ++ [⟨place l E fs.2.1, emp, [], vs.1, cs.1, zeroE⟩], needD l rcurB cs.2)
/-- ParseOf -/
def parseD (s : ByteArray) : List TF × Int × Int :=
 if (scanOf s).2.2 = 0 then
  (if (treeD (scanOf s).1 s.size).2.2 = true ∨ (treeD (scanOf s).1 s.size).2.1 < (scanOf s).1.length then ([], place (scanOf s).1 s.size (treeD (scanOf s).1 s.size).2.1, 1)
  else if errT (treeD (scanOf s).1 s.size).1 = 0 then ((treeD (scanOf s).1 s.size).1, 0, 0) else ([], 0, errT (treeD (scanOf s).1 s.size).1))
 else ([], (scanOf s).2.1, (scanOf s).2.2)
end Go.Proofs.YtmfjlcpjemccmaaGreatDoor
