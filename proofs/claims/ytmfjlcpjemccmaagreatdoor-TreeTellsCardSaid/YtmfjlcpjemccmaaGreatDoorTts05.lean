/- Tokens in memory; whether two lists of tokens are one. Tokens joined, in plain words: what is joined is scanned as it was. Trees in plain words: how great they are, what is wrong with them, their texts. Each lemma states its own conditions. -/
import Derived.Test.YtmfjlcpjemccmaaGreatDoorTts04
import Derived.Outline
import Derived.Deep.QuietTactic
import Derived.BigQuiet
import Derived.WalkLawsBesides
import Derived.WalkSpells
import Derived.Test.YtmfjlcpjemccmaaGreatDoorTts02
namespace Go.Proofs.YtmfjlcpjemccmaaGreatDoor
open Go.RowKit
def Tok.cells (t : Tok) : List Value := [.int .i64 t.kind, .int .i64 t.at_, .string t.text]
def tokR : Rep Tok where
 size := 3
 R _ cs e := cs = e.cells
 len h := by subst h; rfl
 keep _ h := h
def TokAtC (w : World) (b o : Nat) (e : Tok) : Prop := w.cell? ⟨b, o, none⟩ = some (.int .i64 e.kind) ∧ w.cell? ⟨b, o + 1, none⟩ = some (.int .i64 e.at_) ∧ w.cell? ⟨b, o + 2, none⟩ = some (.string e.text)
theorem tokR.cells {w : World} {b o : Nat} {xs : List Tok} (h : ∀ k x, xs[k]? = some x → tokR.At w b (o + k * tokR.size) x) {k : Nat} {x : Tok} (hk : xs[k]? = some x) : TokAtC w b (o + k * 3) x := by
 obtain ⟨cs, hc, hcs⟩ := h k x hk
 have e : cs = x.cells := hc
 subst e
 exact ⟨hcs 0 _ rfl, hcs 1 _ rfl, hcs 2 _ rfl⟩
theorem TokAtC.keep {w w' : World} (h : Bel w w') {b o : Nat} {e : Tok} : TokAtC w b o e → TokAtC w' b o e := fun ⟨x0, x1, x2⟩ => ⟨h.cell x0, h.cell x1, h.cell x2⟩
theorem flat_cut {α : Type} {f : α → List Value} {n : Nat} (hf : ∀ x, (f x).length = n) : ∀ (xs : List α) (k : Nat) (x : α), xs[k]? = some x → ((xs.flatMap f).drop (k * n)).take n = f x
 | [], k, x, h => by simp at h
 | y :: ys, 0, x, h => by
  obtain rfl : y = x := by simpa using h
  rw [List.flatMap_cons, Nat.zero_mul, List.drop_zero, List.take_append_of_le_length (by rw [hf]; exact Nat.le_refl _), List.take_of_length_le (by rw [hf]; exact Nat.le_refl _)]
 | y :: ys, k + 1, x, h => by
  rw [List.flatMap_cons, List.drop_append, List.drop_of_length_le (by rw [hf, Nat.add_mul]; omega), List.nil_append, hf, show (k + 1) * n - n = k * n by rw [Nat.add_mul]; omega]
  exact flat_cut hf ys k x (by simpa using h)
theorem Sl.own_tok {w : World} {base : Nat} {e : TypeId} {v : Value} {n : Nat} {xs : List Tok} (h : w.ownsRow base e 3 v n (xs.flatMap Tok.cells)) (hn : n = xs.length) : Sl tokR w v xs :=
 Sl.own (r := tokR) h hn fun k x hx => flat_cut (n := 3) (fun _ => rfl) xs k x hx
/-- what is looked at -/
def tokKey (at_ : Bool) (t : Tok) : Int × ByteArray × Int := (t.kind, t.text, if at_ then t.at_ else 0)
def sameToks (at_ : Bool) (xs ys : List Tok) : Bool := decide (xs.map (tokKey at_) = ys.map (tokKey at_))
def sp : ByteArray := ⟨#[32]⟩
def emp : ByteArray := ⟨#[]⟩
def joinB : List Tok → ByteArray
 | [] => emp
 | [t] => t.text
 | t :: u :: us => t.text ++ (sp ++ joinB (u :: us))
/-- how long it is, and one more -/
def joinN : List Tok → Nat
 | [] => 0
 | t :: ts => 1 + t.text.size + joinN ts
def allTok (l : List Tok) : Bool := l.all fun t => isTok t.kind t.text
def joinOf (l : List Tok) : ByteArray × Int := if allTok l = true then if 6001 < joinN l then (emp, 2) else (joinB l, 0) else (emp, 1)
theorem sp_bt : bt sp 0 = 32 := by rw [bt_list]; rfl
theorem joinB_size : ∀ l : List Tok, (joinB l).size = joinN l - 1
 | [] => rfl
 | [t] => by simp only [joinB, joinN]; omega
 | t :: u :: us => by
  have := joinB_size (u :: us)
  simp only [joinB, joinN, ByteArray.size_append] at this ⊢
  have h1 : sp.size = 1 := rfl
  omega
theorem joinN_snoc (l : List Tok) (t : Tok) : joinN (l ++ [t]) = joinN l + (1 + t.text.size) := by
 induction l with
 | nil => simp [joinN]
 | cons x xs ih => simp only [List.cons_append, joinN, ih]; omega
/-- tokens that lie in a text, a blank behind each -/
def Spaced (S : ByteArray) : Nat → List Tok → Prop
 | i, [] => S.size ≤ i
 | i, t :: ts => isTok t.kind t.text = true ∧ (∀ k, k < t.text.size → bt S (i + k) = bt t.text k) ∧ (bt S (i + t.text.size) = 32 ∨ bt S (i + t.text.size) = 256) ∧ i + t.text.size ≤ S.size ∧ Spaced S (i + t.text.size + 1) ts
theorem spaced_join : ∀ (l : List Tok) (P : ByteArray), allTok l = true → Spaced (P ++ joinB l) P.size l
 | [], P, _ => by
  show (P ++ emp).size ≤ P.size
  rw [ByteArray.size_append]; exact Nat.le_refl _
 | [t], P, h => by
  unfold allTok at h
  rw [List.all_cons, Bool.and_eq_true] at h
  refine ⟨h.1, fun k hk => ?_, .inr ?_, ?_, ?_⟩
  ·rw [bt_append, if_neg (by omega), Nat.add_sub_cancel_left]; rfl
  ·exact bt_out (by rw [ByteArray.size_append]; show ¬ _ < P.size + t.text.size; omega)
  ·rw [ByteArray.size_append]; exact Nat.le_refl _
  ·show (P ++ t.text).size ≤ _
   rw [ByteArray.size_append]; omega
 | t :: u :: us, P, h => by
  unfold allTok at h
  rw [List.all_cons, Bool.and_eq_true] at h
  have e : P ++ joinB (t :: u :: us) = (P ++ t.text ++ sp) ++ joinB (u :: us) := by
   simp only [joinB, ByteArray.append_assoc]
  have h1 := spaced_join (u :: us) (P ++ t.text ++ sp) h.2
  have e2 : (P ++ t.text ++ sp).size = P.size + t.text.size + 1 := by
   rw [ByteArray.size_append, ByteArray.size_append]; rfl
  rw [e2] at h1
  rw [e]
  refine ⟨h.1, fun k hk => ?_, .inl ?_, ?_, h1⟩
  ·rw [bt_append, if_pos (by omega), bt_append, if_pos (by rw [ByteArray.size_append]; omega), bt_append, if_neg (by omega), Nat.add_sub_cancel_left]
  ·rw [bt_append, if_pos (by omega), bt_append, if_neg (by rw [ByteArray.size_append]; omega), ByteArray.size_append, Nat.sub_self]
   exact sp_bt
  ·rw [ByteArray.size_append, e2]; omega
theorem spaced_scan : ∀ (l : List Tok) (S : ByteArray) (i : Nat) (acc : List Tok), Spaced S i l → ∃ m, scanG S i false acc = (acc ++ m, 0, 0) ∧ m.map (tokKey false) = l.map (tokKey false)
 | [], S, i, acc, h => ⟨[], by rw [scanG_end (by have : S.size ≤ i := h; omega), List.append_nil], rfl⟩
 | t :: ts, S, i, acc, h => by
  obtain ⟨h1, h2, h3, h4, h5⟩ := h
  obtain ⟨g1, g2, g3, g4⟩ := isTok_iff.1 h1
  have hk := tokErr_kind g4
  have hp := tokAt_pos hk
  have he : tokAt S i = tokAt t.text 0 := tokAt_same (n := t.text.size) hk g3.symm (fun k hk => by rw [Nat.zero_add]; exact h2 k hk)
   (by rcases h3 with h3 | h3 <;> rw [h3] <;> decide) (by rintro ⟨_, _, h6⟩; omega)
  have he2 : tokErr S i = 0 := by rw [tokErr_same he (by have := h2 0 (by omega); simpa using this)]; exact g4
  have hk2 : (tokAt S i).1 ≠ 0 := tokErr_kind he2
  obtain ⟨hi, n1, n2⟩ := tokAt_nobl hk2
  have hn : (tokAt S i).2 = t.text.size := by rw [he, g3]
  have hx : S.extract i (i + (tokAt S i).2) = t.text := by
   rw [hn]
   apply ba_ext
   ·rw [extract_size h4]; omega
   ·intro k hk
    rw [extract_size h4] at hk
    rw [bt_extract _ _ _ _ h4, if_pos hk]
    exact h2 k (by omega)
  have hs : scanG S (i + t.text.size) false (acc ++ [tokHere S i]) = scanG S (i + t.text.size + 1) false (acc ++ [tokHere S i]) := by
   rcases h3 with h3 | h3
   ·have hlt : i + t.text.size < S.size := bt_lt (by omega)
    rw [bt_in hlt] at h3
    exact scanG_bl hlt (by simp [h3]) (by simp [isBl, h3])
   ·have hlt : ¬ i + t.text.size < S.size := fun hlt => by
     rw [bt_in hlt] at h3
     have := S[i + t.text.size].toNat_lt
     omega
    rw [scanG_end hlt, scanG_end (by omega)]
  obtain ⟨m, h6, h7⟩ := spaced_scan ts S _ (acc ++ [tokHere S i]) h5
  refine ⟨tokHere S i :: m, ?_, ?_⟩
  ·rw [scanG_tok hi n1 n2 he2, hn, hs, h6, List.append_assoc]; rfl
  ·rw [List.map_cons, List.map_cons, h7]
   congr 1
   unfold tokKey tokHere
   simp only [hx, Bool.false_eq_true, if_false]
   rw [he, g2]
/-- WHAT IS JOINED IS SCANNED AS IT WAS -/
theorem join_scan {l : List Tok} {t : ByteArray} (h : joinOf l = (t, 0)) : ∃ m, scanOf t = (m, 0, 0) ∧ sameToks false l m = true := by
 unfold joinOf at h
 by_cases ha : allTok l = true
 ·rw [if_pos ha] at h
  by_cases hn : 6001 < joinN l
  ·rw [if_pos hn] at h
   injection h with _ h
   omega
  ·rw [if_neg hn] at h
   injection h with h
   have hs := spaced_join l emp ha
   have e : emp ++ joinB l = joinB l := by
    apply ba_ext
    ·rw [ByteArray.size_append]; exact Nat.zero_add _
    ·intro k hk
     rw [bt_append, if_neg (show ¬ k < emp.size from Nat.not_lt_zero k)]; rfl
   rw [e, h] at hs
   obtain ⟨m, h1, h2⟩ := spaced_scan l t 0 [] hs
   have hz := joinB_size l
   rw [h] at hz
   refine ⟨m, ?_, ?_⟩
   ·unfold scanOf
    rw [if_neg (by omega), h1, List.nil_append]
   ·unfold sameToks
    rw [h2]
    simp
 ·rw [if_neg ha] at h
  injection h with _ h
  omega
mutual
/-- how many parts; more than m is enough -/
def TE.size : TE → Int → Int
 | .mk _ _ _ _ args, m => sizeE args 1 m
def sizeE : List TE → Int → Int → Int
 | [], a, _ => a
 | x :: xs, a, m => if m < a then a else sizeE xs (a + x.size (m - a)) m
end
theorem sizeE_le {xs : List TE} (h : ∀ x ∈ xs, ∀ m, 0 ≤ m → 1 ≤ x.size m ∧ x.size m ≤ m + 1) : ∀ a m, 1 ≤ a → a ≤ m + 1 → 1 ≤ sizeE xs a m ∧ sizeE xs a m ≤ m + 1 := by
 induction xs with
 | nil => intro a m h1 h2; rw [sizeE]; exact ⟨h1, h2⟩
 | cons x xs ih =>
  intro a m h1 h2
  rw [sizeE]
  split
  ·exact ⟨h1, h2⟩
  ·obtain ⟨h3, h4⟩ := h x (by simp) (m - a) (by omega)
   exact ih (fun y hy => h y (by simp [hy])) _ _ (by omega) (by omega)
theorem TE.size_le : ∀ q : TE, ∀ m, 0 ≤ m → 1 ≤ q.size m ∧ q.size m ≤ m + 1 :=
 TE.ind fun k a n s args ih m hm => by rw [TE.size]; exact sizeE_le ih 1 m (by omega) (by omega)
theorem sizeE_drop {args : List TE} {k : Nat} {x : TE} (hx : args[k]? = some x) (a m : Int) : sizeE (args.drop k) a m = if m < a then a else sizeE (args.drop (k + 1)) (a + x.size (m - a)) m := by
 obtain ⟨hl, rfl⟩ := List.getElem?_eq_some_iff.1 hx
 rw [List.drop_eq_getElem_cons hl, sizeE]
theorem sizeE_end {args : List TE} {k : Nat} (h : args.length ≤ k) (a m : Int) : sizeE (args.drop k) a m = a := by
 rw [List.drop_eq_nil_of_le h, sizeE]
/-- too great? -/
def TE.great (e : TE) : Bool := decide (15 < e.size 15)
mutual
/-- is nothing in a command too great, nor too deep? -/
def TC.fine : TC → Int → Bool
 | .mk _ _ _ _ i e args thn els, d => !i.great && !e.great && decide (args.length ≤ 3) && !args.any TE.great && fineL thn (d + 1) && fineL els (d + 1)
def fineL : List TC → Int → Bool
 | [], _ => true
 | x :: xs, d => decide (d ≤ 5) && x.fine d && fineL xs d
end
mutual
/-- how many commands -/
def TC.cnt : TC → Nat
 | .mk _ _ _ _ _ _ _ thn els => 1 + cntL thn + cntL els
def cntL : List TC → Nat
 | [] => 0
 | x :: xs => x.cnt + cntL xs
end
theorem TC.fine_eq (x : TC) (d : Int) : x.fine d = (!x.index.great && !x.expr.great && decide (x.args.length ≤ 3) && !x.args.any TE.great && fineL x.thn (d + 1) && fineL x.els (d + 1)) := by
 cases x
 rw [TC.fine]
 rfl
theorem TC.cnt_eq (x : TC) : x.cnt = 1 + cntL x.thn + cntL x.els := by
 cases x
 rw [TC.cnt]
 rfl
theorem fineL_drop {l : List TC} {k : Nat} {x : TC} (hx : l[k]? = some x) (d : Int) : fineL (l.drop k) d = (decide (d ≤ 5) && x.fine d && fineL (l.drop (k + 1)) d) := by
 obtain ⟨hl, rfl⟩ := List.getElem?_eq_some_iff.1 hx
 rw [List.drop_eq_getElem_cons hl, fineL]
theorem cntL_drop {l : List TC} {k : Nat} {x : TC} (hx : l[k]? = some x) : cntL (l.drop k) = x.cnt + cntL (l.drop (k + 1)) := by
 obtain ⟨hl, rfl⟩ := List.getElem?_eq_some_iff.1 hx
 rw [List.drop_eq_getElem_cons hl, cntL]
theorem fineL_end {l : List TC} {k : Nat} (h : l.length ≤ k) (d : Int) : fineL (l.drop k) d = true := by rw [List.drop_eq_nil_of_le h, fineL]
theorem cntL_end {l : List TC} {k : Nat} (h : l.length ≤ k) : cntL (l.drop k) = 0 := by rw [List.drop_eq_nil_of_le h, cntL]
def TF.big (f : TF) : Bool := decide (3 < f.params.length) || decide (6 < f.vars.length) || f.result.great
/-- is there too much of something? -/
def manyL (l : List TF) : Bool := l.any TF.big || !l.all (fun f => fineL f.cmds 1) || decide (40 < (l.map fun f => cntL f.cmds).sum)
def many (l : List TF) : Bool := decide (6 < l.length) || manyL l
/-- words that are no names -/
def wordsT : List ByteArray := [⟨#[102, 117, 110, 99]⟩, ⟨#[109, 97, 105, 110]⟩, ⟨#[118, 97, 114]⟩, ⟨#[97, 114, 114]⟩, ⟨#[114, 101, 97, 100]⟩, ⟨#[112, 114, 105, 110, 116]⟩, ⟨#[105, 102]⟩, ⟨#[101, 108, 115, 101]⟩, ⟨#[119, 104, 105, 108, 101]⟩, ⟨#[114, 101, 116, 117, 114, 110]⟩]
def isWord (s : ByteArray) : Bool := wordsT.any fun x => decide (x = s)
def isName (s : ByteArray) : Bool := isTok 1 s && !isWord s
/-- how many Args -/
def arityE (k : Int) : Int := if k < 1 ∨ 10 < k then -1 else if k ≤ 2 then 0 else if k = 3 then 1 else 2
def TE.none_ (e : TE) : Bool := decide (e.kind = 0) && decide (e.n = 0) && decide (e.name = emp) && decide (e.args.length = 0)
mutual
/-- is an expression right? -/
def TE.ok : TE → Bool
 | .mk k _ n s args => decide (arityE k = (args.length : Int)) && (if k = 2 ∨ k = 3 then isName s else decide (s = emp)) && (if k = 1 then decide (-9999999 ≤ n ∧ n ≤ 9999999) else decide (n = 0)) && okEs args
def okEs : List TE → Bool
 | [] => true
 | x :: xs => x.ok && okEs xs
end
theorem okEs_all (l : List TE) : okEs l = l.all TE.ok := by
 induction l with
 | nil => rfl
 | cons x xs ih => rw [okEs, List.all_cons, ih]
theorem TE.ok_eq (e : TE) : e.ok = (decide (arityE e.kind = (e.args.length : Int)) && (if e.kind = 2 ∨ e.kind = 3 then isName e.name else decide (e.name = emp)) && (if e.kind = 1 then decide (-9999999 ≤ e.n ∧ e.n ≤ 9999999) else decide (e.n = 0)) && e.args.all TE.ok) := by
 cases e
 rw [TE.ok, okEs_all]
 rfl
mutual
/-- is a command right? -/
def TC.ok : TC → Bool
 | .mk k _ s t i e args thn els => decide (1 ≤ k ∧ k ≤ 7) && (if k ≤ 4 then isName s else decide (s = emp)) && (if k = 3 then isName t else decide (t = emp)) && (if k = 2 then i.ok else i.none_) && (if k = 3 ∨ k = 4 then e.none_ else e.ok) &&
  (if k = 3 then args.all TE.ok else decide (args.length = 0)) && (if 6 ≤ k then okCs thn else decide (thn.length = 0)) && (if k = 6 then okCs els else decide (els.length = 0))
def okCs : List TC → Bool
 | [] => true
 | x :: xs => x.ok && okCs xs
end
theorem okCs_all (l : List TC) : okCs l = l.all TC.ok := by
 induction l with
 | nil => rfl
 | cons x xs ih => rw [okCs, List.all_cons, ih]
theorem TC.ok_eq (x : TC) : x.ok = (decide (1 ≤ x.kind ∧ x.kind ≤ 7) && (if x.kind ≤ 4 then isName x.name else decide (x.name = emp)) && (if x.kind = 3 then isName x.other else decide (x.other = emp)) && (if x.kind = 2 then x.index.ok else x.index.none_) && (if x.kind = 3 ∨ x.kind = 4 then x.expr.none_ else x.expr.ok) &&
  (if x.kind = 3 then x.args.all TE.ok else decide (x.args.length = 0)) && (if 6 ≤ x.kind then x.thn.all TC.ok else decide (x.thn.length = 0)) && (if x.kind = 6 then x.els.all TC.ok else decide (x.els.length = 0))) := by
 cases x
 rw [TC.ok, okCs_all, okCs_all]
 rfl
def TV.ok (v : TV) : Bool := isName v.name && decide (0 ≤ v.size ∧ v.size ≤ 9999999)
def TF.ok (f : TF) (main : Bool) : Bool :=
 (if main then decide (f.name = emp) && f.result.none_ && decide (f.params.length = 0) else isName f.name && f.result.ok) && f.params.all isName && f.vars.all TV.ok && f.cmds.all TC.ok
/-- are all functions right, the last of which is main? -/
def okFs : List TF → Bool
 | [] => true
 | [f] => f.ok true
 | f :: g :: l => f.ok false && okFs (g :: l)
/-- Check -/
def errT (l : List TF) : Int := if many l then 2 else if l.length = 0 then 1 else if okFs l then 0 else 1
end Go.Proofs.YtmfjlcpjemccmaaGreatDoor
