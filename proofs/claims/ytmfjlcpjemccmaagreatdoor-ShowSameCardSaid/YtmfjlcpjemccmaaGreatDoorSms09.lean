/- The texts of trees in plain words, and how long they may be. Each lemma states its own conditions. -/
import Derived.Test.YtmfjlcpjemccmaaGreatDoorSms08
import Derived.Test.YtmfjlcpjemccmaaGreatDoorSms04
namespace Go.Proofs.YtmfjlcpjemccmaaGreatDoor
open Go.RowKit
abbrev spB : ByteArray := ⟨#[32]⟩
/-- one kind's text, of its Args' texts -/
def textE (k n : Int) (s : ByteArray) (l : List ByteArray) : ByteArray :=
 if k = 1 then digB n else if k = 2 then s else if k = 3 then ((s ++ lsqB) ++ l.getD 0 emp) ++ rsqB
 else (((((lparB ++ l.getD 0 emp) ++ spB) ++ opB (k - 4).toNat) ++ spB) ++ l.getD 1 emp) ++ rparB
mutual
/-- an expression's text -/
def TE.text : TE → ByteArray
 | .mk k _ n s args => textE k n s (textEs args)
def textEs : List TE → List ByteArray
 | [] => []
 | x :: xs => x.text :: textEs xs
end
theorem textEs_map (l : List TE) : textEs l = l.map TE.text := by
 induction l with
 | nil => rfl
 | cons x xs ih => rw [textEs, ih, List.map_cons]
/-- how many parts -/
def TE.cnt : TE → Nat
 | .mk _ _ _ _ args => 1 + cntE args
where cntE : List TE → Nat
 | [] => 0
 | x :: xs => x.cnt + cntE xs
theorem sizeE_cnt {xs : List TE} (h : ∀ x ∈ xs, ∀ m, 0 ≤ m → x.size m ≤ m → x.size m = x.cnt) (hl : ∀ x ∈ xs, ∀ m, 0 ≤ m → 1 ≤ x.size m ∧ x.size m ≤ m + 1) : ∀ (a m : Int), 1 ≤ a → a ≤ m + 1 → sizeE xs a m ≤ m → sizeE xs a m = a + TE.cnt.cntE xs := by
 induction xs with
 | nil => intro a m _ _ _; rw [sizeE, TE.cnt.cntE]; omega
 | cons x xs ih =>
  intro a m h1 h2 h3
  rw [sizeE] at h3 ⊢
  rw [TE.cnt.cntE]
  by_cases hm : m < a
  ·rw [if_pos hm] at h3; omega
  ·rw [if_neg hm] at h3 ⊢
   obtain ⟨h4, h5⟩ := hl x (by simp) (m - a) (by omega)
   by_cases h6 : x.size (m - a) ≤ m - a
   ·have h7 := h x (by simp) (m - a) (by omega) h6
    rw [ih (fun y hy => h y (by simp [hy])) (fun y hy => hl y (by simp [hy])) _ _ (by omega) (by omega) h3, h7]
    omega
   ·exfalso
    have h8 : a + x.size (m - a) = m + 1 := by omega
    rw [h8] at h3
    cases xs with
    | nil => rw [sizeE] at h3; omega
    | cons y ys => rw [sizeE, if_pos (by omega)] at h3; omega
theorem TE.size_cnt : ∀ (q : TE) (m : Int), 0 ≤ m → q.size m ≤ m → q.size m = q.cnt :=
 TE.ind fun k a n s args ih m hm h => by
  rw [TE.size] at h ⊢
  rw [sizeE_cnt ih (fun x _ m hm => TE.size_le x m hm) 1 m (by omega) (by omega) h, TE.cnt]
  omega
theorem great_cnt {e : TE} (h : e.great = false) : e.cnt ≤ 15 := by
 have h1 : e.size 15 ≤ 15 := by have := of_decide_eq_false h; omega
 have := TE.size_cnt e 15 (by decide) h1
 omega
theorem isName_size {s : ByteArray} (h : isName s = true) : s.size ≤ 12 := by
 unfold isName at h
 have h1 : isTok 1 s = true := by
  cases hh : isTok 1 s with
  | true => rfl
  | false => rw [hh] at h; simp at h
 obtain ⟨h2, h3, h4, h5⟩ := isTok_iff.1 h1
 unfold tokErr at h5
 have h7 : (tokAt s 0).1 = 1 := by omega
 rw [h7, h4] at h5
 by_cases h6 : 12 < s.size
 ·rw [if_neg (by decide), if_pos (Or.inl ⟨rfl, h6⟩)] at h5
  cases h5
 ·omega
/-- a right expression's text is not long -/
theorem TE.text_size : ∀ e : TE, e.ok = true → e.text.size ≤ 14 * e.cnt :=
 TE.ind fun k a n s args ih h => by
  rw [TE.ok, okEs_all, Bool.and_eq_true, Bool.and_eq_true, Bool.and_eq_true, List.all_eq_true] at h
  obtain ⟨⟨⟨h1, h2⟩, h3⟩, h4⟩ := h
  replace h1 := of_decide_eq_true h1
  have hx : ∀ (i : Nat) (x : TE), args[i]? = some x → x.text.size ≤ 14 * x.cnt := fun i x hi => ih x (List.mem_of_getElem? hi) (h4 x (List.mem_of_getElem? hi))
  rw [TE.text, textEs_map, TE.cnt]
  unfold textE
  unfold arityE at h1
  split
  ·rename_i hk
   rw [if_pos hk] at h3
   have := digB_size (of_decide_eq_true h3)
   omega
  ·rename_i hk1
   split
   ·rename_i hk
    rw [if_pos (Or.inl hk)] at h2
    have := isName_size h2
    omega
   ·rename_i hk2
    split
    ·rename_i hk
     rw [if_pos (Or.inr hk)] at h2
     have h5 := isName_size h2
     subst hk
     have hl : args.length = 1 := by simp at h1; omega
     obtain ⟨x, rfl⟩ : ∃ x, args = [x] := List.length_eq_one_iff.1 hl
     have h6 := hx 0 x rfl
     simp only [List.map_cons, List.map_nil, List.getD_cons_zero, ByteArray.size_append, TE.cnt.cntE]
     have e1 : lsqB.size = 1 := rfl
     have e2 : rsqB.size = 1 := rfl
     omega
    ·rename_i hk3
     have hl : args.length = 2 := by
      split at h1
      ·omega
      ·split at h1 <;> omega
     obtain ⟨x, y, rfl⟩ : ∃ x y, args = [x, y] := by
      match args, hl with
      | [x, y], _ => exact ⟨x, y, rfl⟩
     have h6 := hx 0 x rfl
     have h7 := hx 1 y rfl
     have h8 : (opB (k - 4).toNat).size ≤ 2 := by
      generalize (k - 4).toNat = j
      unfold opB opsL
      match j with
      | 0 => decide
      | 1 => decide
      | 2 => decide
      | 3 => decide
      | 4 => decide
      | 5 => decide
      | 6 => decide
      | j + 7 => exact Nat.zero_le _
     simp only [List.map_cons, List.map_nil, List.getD_cons_zero, List.getD_cons_succ, ByteArray.size_append, TE.cnt.cntE]
     have e1 : lparB.size = 1 := rfl
     have e2 : rparB.size = 1 := rfl
     have e3 : spB.size = 1 := rfl
     omega
/-- texts with a comma and a blank between -/
def comsB : List ByteArray → ByteArray
 | [] => emp
 | [x] => x
 | x :: y :: l => x ++ (⟨#[44, 32]⟩ ++ comsB (y :: l))
abbrev isB : ByteArray := ⟨#[32, 61, 32]⟩
abbrev endB : ByteArray := ⟨#[59, 10]⟩
abbrev putB : ByteArray := ⟨#[93, 32, 61, 32]⟩
abbrev calB : ByteArray := ⟨#[41, 59, 10]⟩
abbrev rdB : ByteArray := ⟨#[32, 61, 32, 114, 101, 97, 100, 59, 10]⟩
abbrev priB : ByteArray := ⟨#[112, 114, 105, 110, 116, 32]⟩
abbrev iffB : ByteArray := ⟨#[105, 102, 32]⟩
abbrev opnB : ByteArray := ⟨#[32, 123, 10]⟩
abbrev elsB : ByteArray := ⟨#[125, 32, 101, 108, 115, 101, 32, 123, 10]⟩
abbrev cloB : ByteArray := ⟨#[125, 10]⟩
abbrev whiB : ByteArray := ⟨#[119, 104, 105, 108, 101, 32]⟩
abbrev twoB : ByteArray := ⟨#[32, 32]⟩
mutual
/-- a command's lines -/
def TC.text : TC → ByteArray → ByteArray
 | .mk k _ s t i e args thn els, ind =>
  if k = 1 then ind ++ (s ++ (isB ++ (e.text ++ endB)))
  else if k = 2 then ind ++ (s ++ (lsqB ++ (i.text ++ (putB ++ (e.text ++ endB)))))
  else if k = 3 then ind ++ (s ++ (isB ++ (t ++ (lparB ++ (comsB (args.map TE.text) ++ calB)))))
  else if k = 4 then ind ++ (s ++ rdB)
  else if k = 5 then ind ++ (priB ++ (e.text ++ endB))
  else if k = 6 then ind ++ (iffB ++ (e.text ++ (opnB ++ (textCs thn (ind ++ twoB) ++ ((if els.length = 0 then emp else ind ++ (elsB ++ textCs els (ind ++ twoB))) ++ (ind ++ cloB))))))
  else ind ++ (whiB ++ (e.text ++ (opnB ++ (textCs thn (ind ++ twoB) ++ (ind ++ cloB)))))
def textCs : List TC → ByteArray → ByteArray
 | [], _ => emp
 | x :: xs, ind => x.text ind ++ textCs xs ind
end
theorem TC.text_eq (x : TC) (ind : ByteArray) : x.text ind = 
  if x.kind = 1 then ind ++ (x.name ++ (isB ++ (x.expr.text ++ endB)))
  else if x.kind = 2 then ind ++ (x.name ++ (lsqB ++ (x.index.text ++ (putB ++ (x.expr.text ++ endB)))))
  else if x.kind = 3 then ind ++ (x.name ++ (isB ++ (x.other ++ (lparB ++ (comsB (x.args.map TE.text) ++ calB)))))
  else if x.kind = 4 then ind ++ (x.name ++ rdB)
  else if x.kind = 5 then ind ++ (priB ++ (x.expr.text ++ endB))
  else if x.kind = 6 then ind ++ (iffB ++ (x.expr.text ++ (opnB ++ (textCs x.thn (ind ++ twoB) ++ ((if x.els.length = 0 then emp else ind ++ (elsB ++ textCs x.els (ind ++ twoB))) ++ (ind ++ cloB))))))
  else ind ++ (whiB ++ (x.expr.text ++ (opnB ++ (textCs x.thn (ind ++ twoB) ++ (ind ++ cloB))))) := by
 cases x
 rw [TC.text]
 rfl
theorem comsB_size {l : List ByteArray} {m : Nat} (h : ∀ x ∈ l, x.size ≤ m) : (comsB l).size ≤ l.length * (m + 2) := by
 induction l with
 | nil => exact Nat.zero_le _
 | cons x l ih =>
  have hx := h x (by simp)
  have h2 := ih fun y hy => h y (by simp [hy])
  rw [List.length_cons, Nat.add_mul, Nat.one_mul]
  cases l with
  | nil => rw [comsB]; omega
  | cons y l =>
   rw [comsB, ByteArray.size_append, ByteArray.size_append]
   have e : (⟨#[44, 32]⟩ : ByteArray).size = 2 := rfl
   omega
theorem textCs_size {l : List TC} (h : ∀ x ∈ l, ∀ (d : Int) (ind : ByteArray), x.ok = true → x.fine d = true → d ≤ 5 → (ind.size : Int) ≤ 2 * d → (x.text ind).size ≤ 800 * x.cnt) {d : Int} {ind : ByteArray} (h1 : okCs l = true) (h2 : fineL l d = true) (h3 : (ind.size : Int) ≤ 2 * d) : (textCs l ind).size ≤ 800 * cntL l := by
 induction l with
 | nil => exact Nat.zero_le _
 | cons x l ih =>
  rw [okCs, Bool.and_eq_true] at h1
  rw [fineL, Bool.and_eq_true, Bool.and_eq_true, decide_eq_true_eq] at h2
  have h4 := h x (by simp) d ind h1.1 h2.1.2 h2.1.1 h3
  have h5 := ih (fun y hy => h y (by simp [hy])) h1.2 h2.2
  rw [textCs, cntL, ByteArray.size_append]
  omega
/-- right commands that are not too deep, too many or too great have no long text -/
theorem TC.text_size : ∀ (x : TC) (d : Int) (ind : ByteArray), x.ok = true → x.fine d = true → d ≤ 5 → (ind.size : Int) ≤ 2 * d → (x.text ind).size ≤ 800 * x.cnt := by
 intro x
 induction x using TC.ind with
 | h k a s t i e args thn els ih1 ih2 =>
  intro d ind hok hf hd hind
  rw [TC.ok] at hok
  rw [TC.fine] at hf
  simp only [Bool.and_eq_true] at hok hf
  obtain ⟨⟨⟨⟨⟨⟨⟨hk, hs⟩, ht⟩, hi⟩, he⟩, ha⟩, hT⟩, hE⟩ := hok
  obtain ⟨⟨⟨⟨⟨gi, ge⟩, ga⟩, gaa⟩, gT⟩, gE⟩ := hf
  replace hk := of_decide_eq_true hk
  replace ga := of_decide_eq_true ga
  replace gi := Bool.not_eq_true' _ ▸ gi
  replace ge := Bool.not_eq_true' _ ▸ ge
  replace gaa := Bool.not_eq_true' _ ▸ gaa
  have htw : (ind ++ twoB).size = ind.size + 2 := by rw [ByteArray.size_append]; rfl
  have hee : ∀ {x : TE}, x.great = false → x.ok = true → x.text.size ≤ 210 := fun g o => by
   have := TE.text_size _ o
   have := great_cnt g
   omega
  have hTs : okCs thn = true → (textCs thn (ind ++ twoB)).size ≤ 800 * cntL thn := fun o => textCs_size ih1 o gT (by omega)
  have hEs : okCs els = true → (textCs els (ind ++ twoB)).size ≤ 800 * cntL els := fun o => textCs_size ih2 o gE (by omega)
  rw [TC.text, TC.cnt]
  have e1 : isB.size = 3 := rfl
  have e2 : endB.size = 2 := rfl
  have e3 : putB.size = 4 := rfl
  have e4 : calB.size = 3 := rfl
  have e5 : rdB.size = 9 := rfl
  have e6 : priB.size = 6 := rfl
  have e7 : iffB.size = 3 := rfl
  have e8 : opnB.size = 3 := rfl
  have e9 : elsB.size = 9 := rfl
  have e10 : cloB.size = 2 := rfl
  have e11 : whiB.size = 6 := rfl
  have e12 : lsqB.size = 1 := rfl
  have e13 : lparB.size = 1 := rfl
  have hk' : k = 1 ∨ k = 2 ∨ k = 3 ∨ k = 4 ∨ k = 5 ∨ k = 6 ∨ k = 7 := by omega
  rcases hk' with rfl | rfl | rfl | rfl | rfl | rfl | rfl
  ·rw [if_pos (by decide)] at hs
   rw [if_neg (by decide)] at he
   have := isName_size hs
   have := hee ge he
   simp only [if_true, ByteArray.size_append]
   omega
  ·rw [if_pos (by decide)] at hs
   rw [if_neg (by decide)] at he
   rw [if_pos (by decide)] at hi
   have := isName_size hs
   have := hee ge he
   have := hee gi hi
   rw [if_neg (by decide), if_pos rfl]
   simp only [ByteArray.size_append]
   omega
  ·rw [if_pos (by decide)] at hs ht ha
   have := isName_size hs
   have := isName_size ht
   have hcs : (comsB (args.map TE.text)).size ≤ (args.map TE.text).length * (210 + 2) := comsB_size fun x hx => by
    obtain ⟨y, hy, rfl⟩ := List.mem_map.1 hx
    refine hee ?_ (List.all_eq_true.1 ha y hy)
    cases hg : y.great with
    | false => rfl
    | true => rw [List.any_eq_true.2 ⟨y, hy, hg⟩] at gaa; cases gaa
   rw [List.length_map] at hcs
   rw [if_neg (by decide), if_neg (by decide), if_pos rfl]
   simp only [ByteArray.size_append]
   omega
  ·rw [if_pos (by decide)] at hs
   have := isName_size hs
   rw [if_neg (by decide), if_neg (by decide), if_neg (by decide), if_pos rfl]
   simp only [ByteArray.size_append]
   omega
  ·rw [if_neg (by decide)] at he
   have := hee ge he
   rw [if_neg (by decide), if_neg (by decide), if_neg (by decide), if_neg (by decide), if_pos rfl]
   simp only [ByteArray.size_append]
   omega
  ·rw [if_neg (by decide)] at he
   rw [if_pos (by decide)] at hT hE
   have := hee ge he
   have := hTs hT
   have := hEs hE
   rw [if_neg (by decide), if_neg (by decide), if_neg (by decide), if_neg (by decide), if_neg (by decide), if_pos rfl]
   have e0 : emp.size = 0 := rfl
   split
   ·simp only [ByteArray.size_append]
    omega
   ·simp only [ByteArray.size_append]
    omega
  ·rw [if_neg (by decide)] at he
   rw [if_pos (by decide)] at hT
   have := hee ge he
   have := hTs hT
   rw [if_neg (by decide), if_neg (by decide), if_neg (by decide), if_neg (by decide), if_neg (by decide), if_neg (by decide)]
   simp only [ByteArray.size_append]
   omega
theorem textCs_size' {l : List TC} {d : Int} {ind : ByteArray} (h1 : okCs l = true) (h2 : fineL l d = true) (h3 : (ind.size : Int) ≤ 2 * d) : (textCs l ind).size ≤ 800 * cntL l :=
 textCs_size (fun x _ => TC.text_size x) h1 h2 h3
abbrev maiB : ByteArray := ⟨#[109, 97, 105, 110, 32, 123, 10]⟩
abbrev funB : ByteArray := ⟨#[102, 117, 110, 99, 32]⟩
abbrev hedB : ByteArray := ⟨#[41, 32, 123, 10]⟩
abbrev vaB : ByteArray := ⟨#[32, 32, 118, 97, 114, 32]⟩
abbrev arB : ByteArray := ⟨#[32, 32, 97, 114, 114, 32]⟩
abbrev retB : ByteArray := ⟨#[32, 32, 114, 101, 116, 117, 114, 110, 32]⟩
/-- a variable's line -/
def TV.text (v : TV) : ByteArray := if v.size = 0 then vaB ++ (v.name ++ endB) else arB ++ (v.name ++ (spB ++ (digB v.size ++ endB)))
def textVs : List TV → ByteArray
 | [] => emp
 | v :: vs => v.text ++ textVs vs
/-- a function's lines -/
def TF.text (f : TF) (main : Bool) : ByteArray :=
 (if main then maiB else funB ++ (f.name ++ (lparB ++ (comsB f.params ++ hedB)))) ++ (textVs f.vars ++ (textCs f.cmds twoB ++ ((if main then emp else retB ++ (f.result.text ++ endB)) ++ cloB)))
def textFs : List TF → ByteArray
 | [] => emp
 | f :: l => f.text (decide (l.length = 0)) ++ textFs l
end Go.Proofs.YtmfjlcpjemccmaaGreatDoor
