/- The program's closure that reads one argument of a call: walked. Each lemma states its own conditions. -/
import Derived.Test.YtmfjlcpjemccmaaGreatDoorTts26
namespace Go.Proofs.YtmfjlcpjemccmaaGreatDoor
open Go.RowKit
/-- a command of a call, its arguments so far -/
def argCs (A0 : Int) (nm no : ByteArray) (v : Value) : Array Value := #[.int .i64 3, .int .i64 A0, .string nm, .string no, .int .i64 0, .int .i64 0, .int .i64 0, .string ⟨#[]⟩, .slice none 0 0, .int .i64 0, .int .i64 0, .int .i64 0, .string ⟨#[]⟩, .slice none 0 0, v, .slice none 0 0, .slice none 0 0]
/-- so many arguments are read -/
def ArgI (w : World) (g : Nat) (lv : Value) (E Q P0 X0 : Nat) (A0 : Int) (nm no : ByteArray) (W : World) (xs : List TE) (k : Nat) : Prop :=
 ∃ v, Bec w W W g lv E k Q (argCs A0 nm no v) ∧ OwnL teR 49 (X0 + 1) W v xs ∧ Blk W P0 86 #[.pointer (some ⟨g, 0, none⟩)] ∧ Blk W X0 228 #[.pointer (some ⟨Q, 0, none⟩)] ∧ (w.heap.size ≤ P0 ∧ P0 < X0 ∧ xs.length ≤ k)
section
variable {w W W' : World} {g : Nat} {lv : Value} {E Q P0 X0 : Nat} {A0 : Int} {nm no : ByteArray} {xs : List TE} {k : Nat}
theorem ArgI.keep (h : ArgI w g lv E Q P0 X0 A0 nm no W xs k) (hb : Bel W W') : ArgI w g lv E Q P0 X0 A0 nm no W' xs k := by
 obtain ⟨v, h1, h2, h3, h4, h5⟩ := h
 exact ⟨v, (h1.keep hb).fresh, h2.keep teR_more hb, h3.keep hb, h4.keep hb, h5⟩
theorem ArgI.at_ (h : ArgI w g lv E Q P0 X0 A0 nm no W xs k) (hg : W.grownBy W' (some g)) (hp : Ps W' g lv (k + 1) E) : ArgI w g lv E Q P0 X0 A0 nm no W' xs (k + 1) := by
 obtain ⟨v, h1, h2, h3, h4, h5⟩ := h
 have hlt := h1.lt
 exact ⟨v, (h1.grown hg hp).fresh, h2.at_ teR_more hg (fun j hj => by cases hj; omega), h3.grown hg (by simp; omega), h4.grown hg (by simp; omega), h5.1, h5.2.1, by omega⟩
theorem ArgI.ps (h : ArgI w g lv E Q P0 X0 A0 nm no W xs k) {w0 : World} (h0 : Bel w0 w) (hg : w0.heap.size ≤ g) (hQ : w0.heap.size ≤ Q) : Ps W g lv k E ∧ Bel w0 W := by
 obtain ⟨v, h1, -⟩ := h
 exact ⟨h1.1, h1.bel h0 hg hQ⟩
end
/-- what a thing of a list hands back -/
def DoRes {α : Type} (l : List Tok) (E : Nat) (I : World → List α → Nat → Prop) (Fr : World → Prop) (xs : List α) (y : α × RS) (r : Ending) (W' : World) : Prop :=
 (y.2.2 = true → r = failV (place l E y.2.1) ∧ Fr W') ∧ (y.2.2 = false → r = .returned (.tuple #[]) ∧ I W' (xs ++ [y.1]) y.2.1)
theorem st_val {P : Program} {md : Region.Mode} {ops : Array Oper} {Q : Exit → Act → World → Prop} {S : World → Prop} {fuel : Nat} {listed : Array Bool} {a : Act} {w : World} {i : Nat} (d : Option Tmp) {o : Oper} (hi : ops[i]? = some o) (hd : o.dst = d) (hw : Region.wanted o (yielded ops a.tmps) = true) (v : Value) (w' : World) (hrun : (execOp a.eval o).run P w = .ok (.value v) w') (hS : S w')
  (h : wpAnyH P md ops Q S fuel (listed.setIfInBounds i true) (a.put d v) w') : StepAt P md ops Q S fuel listed a w i :=
 wpOp_step hi fun _ hK => by
  subst hd
  rw [if_pos hw]
  unfold Oper.wp
  rw [hrun, Oper.upon_value]
  exact hK _ _ ⟨hS, h⟩
theorem blk_cells {W : World} {b : Nat} {t : TypeId} {cs : List Value} (h : Blk W b t cs.toArray) : CellsAt W b 0 cs := fun j u hu => by
 rw [Nat.zero_add]
 exact h.cell (by simpa using hu)
theorem Bec.app {w X W W' : World} {g : Nat} {lv : Value} {E p Q : Nat} {cs : Array Value} (h : Bec w X W g lv E p Q cs) {o : Option Nat} (hg : W.grownBy W' o) (ho : ∀ k, o = some k → w.heap.size ≤ k) : Bec w W' W' g lv E p Q cs := by
 obtain ⟨h1, h2, h3, h4, h5⟩ := h
 exact ⟨Blk.grown h1 hg (fun e => by have := ho _ e.symm; omega), h2.grown hg (fun e => by have := ho _ e.symm; omega), h3.grow hg fun x e => Or.inr (Or.inr (ho x e)), h4, Bel.rfl_ _⟩
/-- the two variables that a closure holds -/
def BoxS (P0 X0 g Q : Nat) (W : World) : Prop := Blk W P0 86 #[.pointer (some ⟨g, 0, none⟩)] ∧ Blk W X0 228 #[.pointer (some ⟨Q, 0, none⟩)]
theorem BoxS.keep {P0 X0 g Q : Nat} {W W' : World} (h : BoxS P0 X0 g Q W) (hb : Bel W W') : BoxS P0 X0 g Q W' := ⟨h.1.keep hb, h.2.keep hb⟩
theorem BoxS.g2 {P0 X0 g Q : Nat} {W W' : World} (h : BoxS P0 X0 g Q W) (hb : G2 W W' g Q) (h1 : P0 ≠ g ∧ P0 ≠ Q) (h2 : X0 ≠ g ∧ X0 ≠ Q) : BoxS P0 X0 g Q W' := ⟨hb.blk h.1 h1.1 h1.2, hb.blk h.2 h2.1 h2.2⟩
theorem BoxS.set_ {P0 X0 g Q : Nat} {W : World} (h : BoxS P0 X0 g Q W) (h1 : P0 ≠ Q) (h2 : X0 ≠ Q) (i : Nat) (u : Value) : BoxS P0 X0 g Q (W.setCell ⟨Q, i, none⟩ u) := ⟨h.1.far_ h1 i u, h.2.far_ h2 i u⟩
set_option maxRecDepth 20000 in
set_option maxHeartbeats 4000000 in
theorem bec1_any (l : List Tok) (lv : Value) (E g Q P0 X0 k : Nat) (A0 : Int) (nm no : ByteArray) (w0 w W : World) (hl : Sl tokR w0 lv l) (hn : l.length ≤ 6000) (hok : ∀ t ∈ l, TokOk t) (hm : ∀ t ∈ l, t.text.size ≤ maxLen) (hg : w0.heap.size ≤ g) (hQ : w0.heap.size ≤ Q) (h0 : Bel w0 w) (xs : List TE) (hk : k ≤ l.length) (h : ArgI w g lv E Q P0 X0 A0 nm no W xs k) :
  Calls Tryz.prog 219 #[.pointer (some ⟨P0, 0, none⟩), .pointer (some ⟨X0, 0, none⟩)] W fun r W' => DoRes l E (ArgI w g lv E Q P0 X0 A0 nm no) (fun W' => G2 w W' g Q) xs (exprD l E 60 (k, false)) r W' := by
 obtain ⟨v, hs, ho, hP, hX, hb1, hb2, hb3⟩ := h
 obtain ⟨va, vc, rfl⟩ := ho.slice
 have HXL := Hi_ hX.lt
 have HEX := Hi_ (fun V (hb : Bel W V) => pexpr_any l lv E g w0 hl hn hok hm hg 60 0 k V (by omega) (by omega) hk ((hs.bel h0 hg hQ).tr hb) (hs.1.keep hb))
 have hgt := exprD_gt (l := l) (E := E) 60 (k, false)
 have hle := exprD_le (E := E) hok 60 (k, false) hk
 have hlt := hs.lt
 have hsz := hs.size
 have HS := Hi_ hs
 have HO := Hi_ ho
 have ho0 := Hi_ ho
 have HX := Hi_ (show BoxS P0 X0 g Q W from ⟨hP, hX⟩)
 have p0 := hP.cell (i := 0) (v := .pointer (some ⟨g, 0, none⟩)) rfl
 clear hs ho hP hX
 obtain ⟨xe, hxe⟩ : ∃ x, x = exprD l E 60 (k, false) := ⟨_, rfl⟩
 rw [← hxe] at HEX hgt hle ⊢
 clear hxe
 obtain ⟨e, q1, f1⟩ := xe
 dsimp only at HEX hgt hle ⊢
 go_enter Tryz.func219, Tryz.ntmps219
 go_wp2_with fail
 refine (HEX.out W (Bel.rfl_ W)).mono ?_
 rintro r w1 hres
 cases f1 with
 | true =>
  obtain ⟨hg1, rfl⟩ := PsR.bad hres rfl
  have HG := Hi_ (HS.out.grew.par hg1)
  clear hres hg1 HEX
  go_wp2
  exact ⟨rfl, fun _ => ⟨rfl, HG.out⟩, fun h => by cases h⟩
 | false =>
 obtain ⟨hg1, hp1, A1, c1, rfl, hse, hsl⟩ := PsR.good hres rfl
 have hkq : k < q1 := by
  rcases hgt with h | h
  ·cases h
  ·exact h
 have hW1 := hg1.size
 replace HS := Hi_ ((HS.out.grown hg1 hp1).fresh)
 replace HO := Hi_ (HO.out.at_ teR_more hg1 fun j hj => by cases hj; omega)
 replace HX := Hi_ (show BoxS P0 X0 g Q w1 from ⟨HX.out.1.grown hg1 (by simp; omega), HX.out.2.grown hg1 (by simp; omega)⟩)
 have HE := Hi_ (show teR.R (low W.heap.size w1) [.int .i64 e.kind, .int .i64 e.at_, .int .i64 e.n, .string e.name, .slice A1 e.args.length c1] e from by obtain ⟨ek, ea, eN, es, eargs⟩ := e; exact TER.shut hse hsl)
 have HOV : Hid (∀ j, (Value.slice va xs.length vc).ownBlock = some j → j < W.heap.size ∧ X0 + 1 ≤ j) := Hi_ (by
  obtain ⟨cells, ho1, -⟩ := ho0.out
  exact fun j hj => ⟨(ho1.lt j hj).2, (ho1.lt j hj).1⟩)
 clear hres hg1 hp1 HEX hsl
 go_upto_region 1 with fail
 have hba := (Bel.rfl_ w1).al (.cells #[.int .i64 e.kind, .int .i64 e.at_, .int .i64 e.n, .string e.name, .slice A1 e.args.length c1] 49)
 have HM := Hi_ (Blk.new w1 49 #[.int .i64 e.kind, .int .i64 e.at_, .int .i64 e.n, .string e.name, .slice A1 e.args.length c1])
 replace HS := Hi_ ((HS.out.keep hba).fresh)
 replace HO := Hi_ (HO.out.keep teR_more hba)
 replace HX := Hi_ (HX.out.keep hba)
 replace HE := Hi_ (teR.keep (low_belB hba) HE.out)
 have hM : W.heap.size ≤ w1.heap.size := hW1
 clear hba
 generalize w1.alloc (.cells #[.int .i64 e.kind, .int .i64 e.at_, .int .i64 e.n, .string e.name, .slice A1 e.args.length c1] 49) = W1 at *
 generalize w1.heap.size = M at *
 have hXW : X0 + 1 ≤ W.heap.size := by have := HXL.out; omega
 have hMo : (Value.slice va xs.length vc).ownBlock ≠ some M := fun e => by have := (HOV.out M e).1; omega
 have hxl : xs.length ≤ 6000 := by omega
 go_region
 ·have hbb := ((Bel.rfl_ W1).al (.cells #[.bool false] 4)).dr
  replace HS := Hi_ (HS.out.keep hbb).fresh
  replace HO := Hi_ (HO.out.keep teR_more hbb)
  replace HX := Hi_ (HX.out.keep hbb)
  replace HE := Hi_ (teR.keep (low_belB hbb) HE.out)
  replace HM := Hi_ (HM.out.keep hbb)
  clear hbb
  generalize (W1.alloc (.cells #[.bool false] 4)).drew = W2 at *
  go_upto_region 4 with fail
  refine wp_region_held_drew (S := (fun V => BoxS P0 X0 g Q V ∧ Blk V M 49 #[.int .i64 e.kind, .int .i64 e.at_, .int .i64 e.n, .string e.name, .slice A1 e.args.length c1])) (by kernel_rfl) ⟨HX.out.keep ((Bel.rfl_ _).dr), HM.out.keep ((Bel.rfl_ _).dr)⟩ (fun hS => ?_)
  replace HS := Hi_ (HS.out.keep ((Bel.rfl_ _).dr)).fresh
  replace HO := Hi_ (HO.out.keep teR_more ((Bel.rfl_ _).dr))
  replace HE := Hi_ (teR.keep (low_belB ((Bel.rfl_ _).dr)) HE.out)
  clear HX HM
  generalize W2.drew = W3 at *
  refine rt_t (i := 0) (some 18) (.pointer (some ⟨Q, 0, none⟩)) rfl hS (fun V h => rl_pc rfl (by kernel_rfl) (h.1.2.cell (i := 0) (v := .pointer (some ⟨Q, 0, none⟩)) rfl)) ?_
  refine rt_t (i := 1) (some 19) (.pointer (some ⟨Q, 0, none⟩)) rfl hS (fun V h => rl_pc rfl (by kernel_rfl) (h.1.2.cell (i := 0) (v := .pointer (some ⟨Q, 0, none⟩)) rfl)) ?_
  refine rt_t (i := 2) (some 20) (.pointer (some ⟨Q, 0, none⟩)) rfl hS (fun W _ => by kernel_rfl) ?_
  refine rt_t (i := 3) (some 21) (.pointer (some ⟨Q, 14, none⟩)) rfl hS (fun W _ => by kernel_rfl) ?_
  refine rt_t (i := 5) (some 23) (.agg #[.int .i64 e.kind, .int .i64 e.at_, .int .i64 e.n, .string e.name, .slice A1 e.args.length c1]) rfl hS (fun V h => run_loadRow 49 _ rfl elTE M 0 (by kernel_rfl) [.int .i64 e.kind, .int .i64 e.at_, .int .i64 e.n, .string e.name, .slice A1 e.args.length c1] (blk_cells h.2) rfl (by kernel_rfl)) ?_
  have c14 := HS.out.cell 14 (v := .slice va xs.length vc) rfl
  have HSA := Hi_ (show (fun V => BoxS P0 X0 g Q V ∧ Blk V M 49 #[.int .i64 e.kind, .int .i64 e.at_, .int .i64 e.n, .string e.name, .slice A1 e.args.length c1]) (W3.alloc (.cells #[.int .i64 e.kind, .int .i64 e.at_, .int .i64 e.n, .string e.name, .slice A1 e.args.length c1] 49)) from ⟨hS.1.keep ((Bel.rfl_ _).al _), hS.2.keep ((Bel.rfl_ _).al _)⟩)
  have c14a := ((Bel.rfl_ W3).al (.cells #[.int .i64 e.kind, .int .i64 e.at_, .int .i64 e.n, .string e.name, .slice A1 e.args.length c1] 49)).cell c14
  have hSX : BoxS P0 X0 g Q W3 := hS.1
  have hSM := hS.2
  refine st_two (i := 4) (j := 6) (by kernel_rfl) ?_ ?_
  ·refine st_val (some 22) rfl rfl (by kernel_rfl) (.slice va xs.length vc) W3 (rl_es_ c14) hS ?_
   refine rt_one (i := 6) (some 24) (by kernel_rfl) rfl rfl (by kernel_rfl) (.slice (some ⟨W3.heap.size, 0, none⟩) 1 1) (W3.alloc (.cells #[.int .i64 e.kind, .int .i64 e.at_, .int .i64 e.n, .string e.name, .slice A1 e.args.length c1] 49)) (by kernel_rfl) HSA.out (fun hS => ?_)
   obtain ⟨cells, ho1, ho2⟩ := HO.out
   refine rt_app (i := 7) (some 25) (by kernel_rfl) rfl rfl W3 (.tmp 22) (.tmp 24) 47 rfl rfl (X0 + 1) elTE (.slice va xs.length vc) xs.length cells (by kernel_rfl) ho1 [.int .i64 e.kind, .int .i64 e.at_, .int .i64 e.n, .string e.name, .slice A1 e.args.length c1] (by kernel_rfl) rfl (by simp [Value.oneCell']) (by simp only [maxLen]; omega) (by omega) (by have := hSX.2.lt; omega) ?_
   intro gg cap w4 hown hg4 hv4
   have hob : ∀ j, (Value.slice va xs.length vc).ownBlock = some j → X0 + 1 ≤ j := fun j hj => (ho1.lt j hj).1
   have HS4 := Hi_ (HS.out.app hg4 fun j hj => by have := hob j hj; omega)
   have hS4 : (fun V => BoxS P0 X0 g Q V ∧ Blk V M 49 #[.int .i64 e.kind, .int .i64 e.at_, .int .i64 e.n, .string e.name, .slice A1 e.args.length c1]) w4 := ⟨⟨hSX.1.grown hg4 (fun e => by have := hob _ e.symm; omega), hSX.2.grown hg4 (fun e => by have := hob _ e.symm; omega)⟩, hSM.grown hg4 (fun e => hMo (e.symm))⟩
   refine ⟨hS4, fun hS => ?_⟩
   refine rt_t (i := 8) (some 26) (.pointer (some ⟨Q, 0, none⟩)) rfl hS (fun W _ => by kernel_rfl) ?_
   refine rt_t (i := 9) (some 27) (.pointer (some ⟨Q, 14, none⟩)) rfl hS (fun W _ => by kernel_rfl) ?_
   have c14b := HS4.out.cell 14 (v := .slice va xs.length vc) rfl
   have hS5 : (fun V => BoxS P0 X0 g Q V ∧ Blk V M 49 #[.int .i64 e.kind, .int .i64 e.at_, .int .i64 e.n, .string e.name, .slice A1 e.args.length c1]) (w4.setCell ⟨Q, 14, none⟩ (.slice (some ⟨gg, 0, none⟩) (xs.length + 1) cap)) := ⟨hS4.1.set_ (by omega) (by omega) _ _, hS4.2.far_ (by omega) _ _⟩
   refine rt_st (i := 10) none (by kernel_rfl) rfl rfl (by kernel_rfl) _ (rs_es rfl (by kernel_rfl) (by kernel_rfl) c14b (HS4.out.frozen 14)) hS5 (fun hS => ?_)
   refine wpAnyH_done (by kernel_rfl) ?_ _
   try simp only [Act.put, lA, lB, lC]
   have HS5 := Hi_ (show Bec w _ _ g lv E q1 Q (argCs A0 nm no (.slice (some ⟨gg, 0, none⟩) (xs.length + 1) cap)) from (HS4.out.put 14 (.slice (some ⟨gg, 0, none⟩) (xs.length + 1) cap)).fresh)
   have hgg := (hown.lt gg rfl).1
   have hw4 := hg4.size
   have HO5 := Hi_ (hown.kept (grownS_one w4 Q 14 (.slice (some ⟨gg, 0, none⟩) (xs.length + 1) cap)) (Or.inr (fun e => by have : gg = Q := Option.some.inj e; omega)))
   have HB5 : Hid (∀ b, b < W3.heap.size → X0 + 1 ≤ b → (Value.slice va xs.length vc).ownBlock ≠ some b → (w4.setCell ⟨Q, 14, none⟩ (.slice (some ⟨gg, 0, none⟩) (xs.length + 1) cap)).heap[b]? = W3.heap[b]?) := Hi_ (fun b h1 h2 h3 => (heap_setCell_other w4 ⟨Q, 14, none⟩ b _ (by dsimp only; omega)).trans (hg4.block b h1 fun e => h3 e.symm))
   have HV4 := Hi_ hv4
   have HO1 := Hi_ ho1
   have HO2 := Hi_ ho2
   clear c14b hown hv4 ho1 ho2 HO c14 c14a HSA HS4 hS4
   generalize w4.setCell ⟨Q, 14, none⟩ (.slice (some ⟨gg, 0, none⟩) (xs.length + 1) cap) = w5 at *
   have HPU := OwnL.push2 teR_more (C := W.heap.size) (x := e) HO1.out HO2.out HO5.out HB5.out (HV4.out.imp (fun h => h) fun h k hk => by (have : gg = k := Option.some.inj hk); omega) HE.out hXW (fun k hk => (HOV.out k hk).1)
   go_wp2
   exact bodyPost_end (v := .tuple #[]) (results_none rfl _ _ _) rfl ⟨(fun h => by cases h), fun _ => ⟨rfl, _, HS5.out, HPU, hS.1.1, hS.1.2, hb1, hb2, by rw [List.length_append]; simp only [List.length_cons, List.length_nil]; omega⟩⟩
  ·refine st_val (some 24) rfl rfl (by kernel_rfl) (.slice (some ⟨W3.heap.size, 0, none⟩) 1 1) (W3.alloc (.cells #[.int .i64 e.kind, .int .i64 e.at_, .int .i64 e.n, .string e.name, .slice A1 e.args.length c1] 49)) (by kernel_rfl) HSA.out ?_
   replace hS := HSA.out
   refine rt_one (i := 4) (some 22) (by kernel_rfl) rfl rfl (by kernel_rfl) (.slice va xs.length vc) _ (rl_es_ c14a) hS (fun hS => ?_)
   obtain ⟨cells, ho1, ho2⟩ := HO.out
   refine rt_app (i := 7) (some 25) (by kernel_rfl) rfl rfl W3 (.tmp 22) (.tmp 24) 47 rfl rfl (X0 + 1) elTE (.slice va xs.length vc) xs.length cells (by kernel_rfl) ho1 [.int .i64 e.kind, .int .i64 e.at_, .int .i64 e.n, .string e.name, .slice A1 e.args.length c1] (by kernel_rfl) rfl (by simp [Value.oneCell']) (by simp only [maxLen]; omega) (by omega) (by have := hSX.2.lt; omega) ?_
   intro gg cap w4 hown hg4 hv4
   have hob : ∀ j, (Value.slice va xs.length vc).ownBlock = some j → X0 + 1 ≤ j := fun j hj => (ho1.lt j hj).1
   have HS4 := Hi_ (HS.out.app hg4 fun j hj => by have := hob j hj; omega)
   have hS4 : (fun V => BoxS P0 X0 g Q V ∧ Blk V M 49 #[.int .i64 e.kind, .int .i64 e.at_, .int .i64 e.n, .string e.name, .slice A1 e.args.length c1]) w4 := ⟨⟨hSX.1.grown hg4 (fun e => by have := hob _ e.symm; omega), hSX.2.grown hg4 (fun e => by have := hob _ e.symm; omega)⟩, hSM.grown hg4 (fun e => hMo (e.symm))⟩
   refine ⟨hS4, fun hS => ?_⟩
   refine rt_t (i := 8) (some 26) (.pointer (some ⟨Q, 0, none⟩)) rfl hS (fun W _ => by kernel_rfl) ?_
   refine rt_t (i := 9) (some 27) (.pointer (some ⟨Q, 14, none⟩)) rfl hS (fun W _ => by kernel_rfl) ?_
   have c14b := HS4.out.cell 14 (v := .slice va xs.length vc) rfl
   have hS5 : (fun V => BoxS P0 X0 g Q V ∧ Blk V M 49 #[.int .i64 e.kind, .int .i64 e.at_, .int .i64 e.n, .string e.name, .slice A1 e.args.length c1]) (w4.setCell ⟨Q, 14, none⟩ (.slice (some ⟨gg, 0, none⟩) (xs.length + 1) cap)) := ⟨hS4.1.set_ (by omega) (by omega) _ _, hS4.2.far_ (by omega) _ _⟩
   refine rt_st (i := 10) none (by kernel_rfl) rfl rfl (by kernel_rfl) _ (rs_es rfl (by kernel_rfl) (by kernel_rfl) c14b (HS4.out.frozen 14)) hS5 (fun hS => ?_)
   refine wpAnyH_done (by kernel_rfl) ?_ _
   try simp only [Act.put, lA, lB, lC]
   have HS5 := Hi_ (show Bec w _ _ g lv E q1 Q (argCs A0 nm no (.slice (some ⟨gg, 0, none⟩) (xs.length + 1) cap)) from (HS4.out.put 14 (.slice (some ⟨gg, 0, none⟩) (xs.length + 1) cap)).fresh)
   have hgg := (hown.lt gg rfl).1
   have hw4 := hg4.size
   have HO5 := Hi_ (hown.kept (grownS_one w4 Q 14 (.slice (some ⟨gg, 0, none⟩) (xs.length + 1) cap)) (Or.inr (fun e => by have : gg = Q := Option.some.inj e; omega)))
   have HB5 : Hid (∀ b, b < W3.heap.size → X0 + 1 ≤ b → (Value.slice va xs.length vc).ownBlock ≠ some b → (w4.setCell ⟨Q, 14, none⟩ (.slice (some ⟨gg, 0, none⟩) (xs.length + 1) cap)).heap[b]? = W3.heap[b]?) := Hi_ (fun b h1 h2 h3 => (heap_setCell_other w4 ⟨Q, 14, none⟩ b _ (by dsimp only; omega)).trans (hg4.block b h1 fun e => h3 e.symm))
   have HV4 := Hi_ hv4
   have HO1 := Hi_ ho1
   have HO2 := Hi_ ho2
   clear c14b hown hv4 ho1 ho2 HO c14 c14a HSA HS4 hS4
   generalize w4.setCell ⟨Q, 14, none⟩ (.slice (some ⟨gg, 0, none⟩) (xs.length + 1) cap) = w5 at *
   have HPU := OwnL.push2 teR_more (C := W.heap.size) (x := e) HO1.out HO2.out HO5.out HB5.out (HV4.out.imp (fun h => h) fun h k hk => by (have : gg = k := Option.some.inj hk); omega) HE.out hXW (fun k hk => (HOV.out k hk).1)
   go_wp2
   exact bodyPost_end (v := .tuple #[]) (results_none rfl _ _ _) rfl ⟨(fun h => by cases h), fun _ => ⟨rfl, _, HS5.out, HPU, hS.1.1, hS.1.2, hb1, hb2, by rw [List.length_append]; simp only [List.length_cons, List.length_nil]; omega⟩⟩
 ·have hbb := ((Bel.rfl_ W1).al (.cells #[.bool true] 4)).dr
  replace HS := Hi_ (HS.out.keep hbb).fresh
  replace HO := Hi_ (HO.out.keep teR_more hbb)
  replace HX := Hi_ (HX.out.keep hbb)
  replace HE := Hi_ (teR.keep (low_belB hbb) HE.out)
  replace HM := Hi_ (HM.out.keep hbb)
  clear hbb
  generalize (W1.alloc (.cells #[.bool true] 4)).drew = W2 at *
  go_upto_region 2 with fail
  refine wp_region_held_drew (S := (fun V => BoxS P0 X0 g Q V ∧ Blk V M 49 #[.int .i64 e.kind, .int .i64 e.at_, .int .i64 e.n, .string e.name, .slice A1 e.args.length c1])) (by kernel_rfl) ⟨HX.out.keep ((Bel.rfl_ _).dr), HM.out.keep ((Bel.rfl_ _).dr)⟩ (fun hS => ?_)
  replace HS := Hi_ (HS.out.keep ((Bel.rfl_ _).dr)).fresh
  replace HO := Hi_ (HO.out.keep teR_more ((Bel.rfl_ _).dr))
  replace HE := Hi_ (teR.keep (low_belB ((Bel.rfl_ _).dr)) HE.out)
  clear HX HM
  generalize W2.drew = W3 at *
  refine rt_t (i := 0) (some 7) (.pointer (some ⟨Q, 0, none⟩)) rfl hS (fun V h => rl_pc rfl (by kernel_rfl) (h.1.2.cell (i := 0) (v := .pointer (some ⟨Q, 0, none⟩)) rfl)) ?_
  refine rt_t (i := 1) (some 8) (.pointer (some ⟨Q, 0, none⟩)) rfl hS (fun W _ => by kernel_rfl) ?_
  refine rt_t (i := 2) (some 9) (.pointer (some ⟨Q, 14, none⟩)) rfl hS (fun W _ => by kernel_rfl) ?_
  refine rt_t (i := 4) (some 11) (.agg #[.int .i64 e.kind, .int .i64 e.at_, .int .i64 e.n, .string e.name, .slice A1 e.args.length c1]) rfl hS (fun V h => run_loadRow 49 _ rfl elTE M 0 (by kernel_rfl) [.int .i64 e.kind, .int .i64 e.at_, .int .i64 e.n, .string e.name, .slice A1 e.args.length c1] (blk_cells h.2) rfl (by kernel_rfl)) ?_
  have c14 := HS.out.cell 14 (v := .slice va xs.length vc) rfl
  have HSA := Hi_ (show (fun V => BoxS P0 X0 g Q V ∧ Blk V M 49 #[.int .i64 e.kind, .int .i64 e.at_, .int .i64 e.n, .string e.name, .slice A1 e.args.length c1]) (W3.alloc (.cells #[.int .i64 0, .int .i64 0, .int .i64 0, .string ⟨#[]⟩, .slice none 0 0] 49)) from ⟨hS.1.keep ((Bel.rfl_ _).al _), hS.2.keep ((Bel.rfl_ _).al _)⟩)
  have c14a := ((Bel.rfl_ W3).al (.cells #[.int .i64 0, .int .i64 0, .int .i64 0, .string ⟨#[]⟩, .slice none 0 0] 49)).cell c14
  have hSX : BoxS P0 X0 g Q W3 := hS.1
  have hSM := hS.2
  refine st_two (i := 3) (j := 6) (by kernel_rfl) ?_ ?_
  ·refine st_val (some 10) rfl rfl (by kernel_rfl) (.slice va xs.length vc) W3 (rl_es_ c14) hS ?_
   refine rt_t (i := 5) (some 12) (.int .i64 xs.length) rfl hS (fun W _ => by kernel_rfl) ?_
   refine rt_one (i := 6) (some 13) (by kernel_rfl) rfl rfl (by kernel_rfl) (.slice (some ⟨W3.heap.size, 0, none⟩) 1 1) (W3.alloc (.cells #[.int .i64 0, .int .i64 0, .int .i64 0, .string ⟨#[]⟩, .slice none 0 0] 49)) (by kernel_rfl) HSA.out (fun hS => ?_)
   obtain ⟨cells, ho1, ho2⟩ := HO.out
   refine rt_app (i := 7) (some 14) (by kernel_rfl) rfl rfl W3 (.tmp 10) (.tmp 13) 47 rfl rfl (X0 + 1) elTE (.slice va xs.length vc) xs.length cells (by kernel_rfl) ho1 [.int .i64 0, .int .i64 0, .int .i64 0, .string ⟨#[]⟩, .slice none 0 0] (by kernel_rfl) rfl (by simp [Value.oneCell']) (by simp only [maxLen]; omega) (by omega) (by have := hSX.2.lt; omega) ?_
   intro gg cap w4 hown hg4 hv4
   have hob : ∀ j, (Value.slice va xs.length vc).ownBlock = some j → X0 + 1 ≤ j := fun j hj => (ho1.lt j hj).1
   have HS4 := Hi_ (HS.out.app hg4 fun j hj => by have := hob j hj; omega)
   have hS4 : (fun V => BoxS P0 X0 g Q V ∧ Blk V M 49 #[.int .i64 e.kind, .int .i64 e.at_, .int .i64 e.n, .string e.name, .slice A1 e.args.length c1]) w4 := ⟨⟨hSX.1.grown hg4 (fun e => by have := hob _ e.symm; omega), hSX.2.grown hg4 (fun e => by have := hob _ e.symm; omega)⟩, hSM.grown hg4 (fun e => hMo (e.symm))⟩
   refine ⟨hS4, fun hS => ?_⟩
   refine rt_t (i := 8) (some 15) (.pointer (some ⟨Q, 0, none⟩)) rfl hS (fun W _ => by kernel_rfl) ?_
   refine rt_t (i := 9) (some 16) (.pointer (some ⟨Q, 14, none⟩)) rfl hS (fun W _ => by kernel_rfl) ?_
   have c14b := HS4.out.cell 14 (v := .slice va xs.length vc) rfl
   have hS5 : (fun V => BoxS P0 X0 g Q V ∧ Blk V M 49 #[.int .i64 e.kind, .int .i64 e.at_, .int .i64 e.n, .string e.name, .slice A1 e.args.length c1]) (w4.setCell ⟨Q, 14, none⟩ (.slice (some ⟨gg, 0, none⟩) (xs.length + 1) cap)) := ⟨hS4.1.set_ (by omega) (by omega) _ _, hS4.2.far_ (by omega) _ _⟩
   refine rt_st (i := 10) none (by kernel_rfl) rfl rfl (by kernel_rfl) _ (rs_es rfl (by kernel_rfl) (by kernel_rfl) c14b (HS4.out.frozen 14)) hS5 (fun hS => ?_)
   refine wpAnyH_done (by kernel_rfl) ?_ _
   try simp only [Act.put, lA, lB, lC]
   have HS5 := Hi_ (show Bec w _ _ g lv E q1 Q (argCs A0 nm no (.slice (some ⟨gg, 0, none⟩) (xs.length + 1) cap)) from (HS4.out.put 14 (.slice (some ⟨gg, 0, none⟩) (xs.length + 1) cap)).fresh)
   have hgg := (hown.lt gg rfl).1
   have hw4 := hg4.size
   have HO5 := Hi_ (hown.kept (grownS_one w4 Q 14 (.slice (some ⟨gg, 0, none⟩) (xs.length + 1) cap)) (Or.inr (fun e => by have : gg = Q := Option.some.inj e; omega)))
   have HB5 : Hid (∀ b, b < W3.heap.size → X0 + 1 ≤ b → (Value.slice va xs.length vc).ownBlock ≠ some b → (w4.setCell ⟨Q, 14, none⟩ (.slice (some ⟨gg, 0, none⟩) (xs.length + 1) cap)).heap[b]? = W3.heap[b]?) := Hi_ (fun b h1 h2 h3 => (heap_setCell_other w4 ⟨Q, 14, none⟩ b _ (by dsimp only; omega)).trans (hg4.block b h1 fun e => h3 e.symm))
   have HV4 := Hi_ hv4
   have HO1 := Hi_ ho1
   have HO2 := Hi_ ho2
   clear c14b hown hv4 ho1 ho2 HO c14 c14a HSA HS4 hS4
   have hsz5 : w4.heap.size = (w4.setCell ⟨Q, 14, none⟩ (.slice (some ⟨gg, 0, none⟩) (xs.length + 1) cap)).heap.size := by simp
   generalize w4.setCell ⟨Q, 14, none⟩ (.slice (some ⟨gg, 0, none⟩) (xs.length + 1) cap) = w5 at *
   have hw5 : W3.heap.size ≤ w5.heap.size := by have := hg4.size; rw [← hsz5]; exact this
   have hcl : cells.length = xs.length * 5 := HO1.out.1
   have k0 : w5.cell? ⟨gg, xs.length * 5, none⟩ = some (.int .i64 0) := (HO5.out.cellAt (xs.length * 5) (by omega)).trans (by rw [List.getElem?_append_right (by omega)]; simp [hcl])
   have k1 : w5.cell? ⟨gg, xs.length * 5 + 1, none⟩ = some (.int .i64 0) := (HO5.out.cellAt (xs.length * 5 + 1) (by omega)).trans (by rw [List.getElem?_append_right (by omega)]; simp [hcl])
   have k2 : w5.cell? ⟨gg, xs.length * 5 + 2, none⟩ = some (.int .i64 0) := (HO5.out.cellAt (xs.length * 5 + 2) (by omega)).trans (by rw [List.getElem?_append_right (by omega)]; simp [hcl])
   have k3 : w5.cell? ⟨gg, xs.length * 5 + 3, none⟩ = some (.string ⟨#[]⟩) := (HO5.out.cellAt (xs.length * 5 + 3) (by omega)).trans (by rw [List.getElem?_append_right (by omega)]; simp [hcl])
   have k4 : w5.cell? ⟨gg, xs.length * 5 + 4, none⟩ = some (.slice none 0 0) := (HO5.out.cellAt (xs.length * 5 + 4) (by omega)).trans (by rw [List.getElem?_append_right (by omega)]; simp [hcl])
   have kf0 := HO5.out.frozenAt (xs.length * 5)
   have kf1 := HO5.out.frozenAt (xs.length * 5 + 1)
   have kf2 := HO5.out.frozenAt (xs.length * 5 + 2)
   have kf3 := HO5.out.frozenAt (xs.length * 5 + 3)
   have kf4 := HO5.out.frozenAt (xs.length * 5 + 4)
   have hdlt : decide ((xs.length : Int) < (xs.length : Int) + 1) = true := decide_eq_true (by omega)
   go_wp2
   obtain ⟨o1, g1⟩ := HO5.out.stored (xs.length * 5) (.int .i64 e.kind)
   obtain ⟨o2, g2⟩ := o1.stored (xs.length * 5 + 1) (.int .i64 e.at_)
   obtain ⟨o3, g3⟩ := o2.stored (xs.length * 5 + 2) (.int .i64 e.n)
   obtain ⟨o4, g4⟩ := o3.stored (xs.length * 5 + 3) (.string e.name)
   obtain ⟨o5, g5⟩ := o4.stored (xs.length * 5 + 4) (.slice A1 e.args.length c1)
   have gs := (((g1.trans g2).trans g3).trans g4).trans g5
   rw [set5 _ _ _ _ _ hcl] at o5
   have hS6 : BoxS P0 X0 g Q _ := ⟨hS.1.1.grown gs (by simp; omega), hS.1.2.grown gs (by simp; omega)⟩
   have HS6 := HS5.out.app gs fun j hj => by cases hj; omega
   have HPU := OwnL.push2 teR_more (C := W.heap.size) (x := e) HO1.out HO2.out o5 (fun b h1 h2 h3 => (gs.block b (Nat.lt_of_lt_of_le h1 hw5) (fun e => by
    rcases HV4.out with h | h
    ·exact h3 (h.trans e.symm)
    ·have : b = gg := Option.some.inj e
     omega)).trans (HB5.out b h1 h2 h3)) (HV4.out.imp (fun h => h) fun h k hk => by (have : gg = k := Option.some.inj hk); omega) HE.out hXW (fun k hk => (HOV.out k hk).1)
   exact bodyPost_end (v := .tuple #[]) (results_none rfl _ _ _) rfl ⟨(fun h => by cases h), fun _ => ⟨rfl, _, HS6, HPU, hS6.1, hS6.2, hb1, hb2, by rw [List.length_append]; simp only [List.length_cons, List.length_nil]; omega⟩⟩
  ·refine st_val (some 13) rfl rfl (by kernel_rfl) (.slice (some ⟨W3.heap.size, 0, none⟩) 1 1) (W3.alloc (.cells #[.int .i64 0, .int .i64 0, .int .i64 0, .string ⟨#[]⟩, .slice none 0 0] 49)) (by kernel_rfl) HSA.out ?_
   replace hS := HSA.out
   refine rt_one (i := 3) (some 10) (by kernel_rfl) rfl rfl (by kernel_rfl) (.slice va xs.length vc) _ (rl_es_ c14a) hS (fun hS => ?_)
   refine rt_t (i := 5) (some 12) (.int .i64 xs.length) rfl hS (fun W _ => by kernel_rfl) ?_
   obtain ⟨cells, ho1, ho2⟩ := HO.out
   refine rt_app (i := 7) (some 14) (by kernel_rfl) rfl rfl W3 (.tmp 10) (.tmp 13) 47 rfl rfl (X0 + 1) elTE (.slice va xs.length vc) xs.length cells (by kernel_rfl) ho1 [.int .i64 0, .int .i64 0, .int .i64 0, .string ⟨#[]⟩, .slice none 0 0] (by kernel_rfl) rfl (by simp [Value.oneCell']) (by simp only [maxLen]; omega) (by omega) (by have := hSX.2.lt; omega) ?_
   intro gg cap w4 hown hg4 hv4
   have hob : ∀ j, (Value.slice va xs.length vc).ownBlock = some j → X0 + 1 ≤ j := fun j hj => (ho1.lt j hj).1
   have HS4 := Hi_ (HS.out.app hg4 fun j hj => by have := hob j hj; omega)
   have hS4 : (fun V => BoxS P0 X0 g Q V ∧ Blk V M 49 #[.int .i64 e.kind, .int .i64 e.at_, .int .i64 e.n, .string e.name, .slice A1 e.args.length c1]) w4 := ⟨⟨hSX.1.grown hg4 (fun e => by have := hob _ e.symm; omega), hSX.2.grown hg4 (fun e => by have := hob _ e.symm; omega)⟩, hSM.grown hg4 (fun e => hMo (e.symm))⟩
   refine ⟨hS4, fun hS => ?_⟩
   refine rt_t (i := 8) (some 15) (.pointer (some ⟨Q, 0, none⟩)) rfl hS (fun W _ => by kernel_rfl) ?_
   refine rt_t (i := 9) (some 16) (.pointer (some ⟨Q, 14, none⟩)) rfl hS (fun W _ => by kernel_rfl) ?_
   have c14b := HS4.out.cell 14 (v := .slice va xs.length vc) rfl
   have hS5 : (fun V => BoxS P0 X0 g Q V ∧ Blk V M 49 #[.int .i64 e.kind, .int .i64 e.at_, .int .i64 e.n, .string e.name, .slice A1 e.args.length c1]) (w4.setCell ⟨Q, 14, none⟩ (.slice (some ⟨gg, 0, none⟩) (xs.length + 1) cap)) := ⟨hS4.1.set_ (by omega) (by omega) _ _, hS4.2.far_ (by omega) _ _⟩
   refine rt_st (i := 10) none (by kernel_rfl) rfl rfl (by kernel_rfl) _ (rs_es rfl (by kernel_rfl) (by kernel_rfl) c14b (HS4.out.frozen 14)) hS5 (fun hS => ?_)
   refine wpAnyH_done (by kernel_rfl) ?_ _
   try simp only [Act.put, lA, lB, lC]
   have HS5 := Hi_ (show Bec w _ _ g lv E q1 Q (argCs A0 nm no (.slice (some ⟨gg, 0, none⟩) (xs.length + 1) cap)) from (HS4.out.put 14 (.slice (some ⟨gg, 0, none⟩) (xs.length + 1) cap)).fresh)
   have hgg := (hown.lt gg rfl).1
   have hw4 := hg4.size
   have HO5 := Hi_ (hown.kept (grownS_one w4 Q 14 (.slice (some ⟨gg, 0, none⟩) (xs.length + 1) cap)) (Or.inr (fun e => by have : gg = Q := Option.some.inj e; omega)))
   have HB5 : Hid (∀ b, b < W3.heap.size → X0 + 1 ≤ b → (Value.slice va xs.length vc).ownBlock ≠ some b → (w4.setCell ⟨Q, 14, none⟩ (.slice (some ⟨gg, 0, none⟩) (xs.length + 1) cap)).heap[b]? = W3.heap[b]?) := Hi_ (fun b h1 h2 h3 => (heap_setCell_other w4 ⟨Q, 14, none⟩ b _ (by dsimp only; omega)).trans (hg4.block b h1 fun e => h3 e.symm))
   have HV4 := Hi_ hv4
   have HO1 := Hi_ ho1
   have HO2 := Hi_ ho2
   clear c14b hown hv4 ho1 ho2 HO c14 c14a HSA HS4 hS4
   have hsz5 : w4.heap.size = (w4.setCell ⟨Q, 14, none⟩ (.slice (some ⟨gg, 0, none⟩) (xs.length + 1) cap)).heap.size := by simp
   generalize w4.setCell ⟨Q, 14, none⟩ (.slice (some ⟨gg, 0, none⟩) (xs.length + 1) cap) = w5 at *
   have hw5 : W3.heap.size ≤ w5.heap.size := by have := hg4.size; rw [← hsz5]; exact this
   have hcl : cells.length = xs.length * 5 := HO1.out.1
   have k0 : w5.cell? ⟨gg, xs.length * 5, none⟩ = some (.int .i64 0) := (HO5.out.cellAt (xs.length * 5) (by omega)).trans (by rw [List.getElem?_append_right (by omega)]; simp [hcl])
   have k1 : w5.cell? ⟨gg, xs.length * 5 + 1, none⟩ = some (.int .i64 0) := (HO5.out.cellAt (xs.length * 5 + 1) (by omega)).trans (by rw [List.getElem?_append_right (by omega)]; simp [hcl])
   have k2 : w5.cell? ⟨gg, xs.length * 5 + 2, none⟩ = some (.int .i64 0) := (HO5.out.cellAt (xs.length * 5 + 2) (by omega)).trans (by rw [List.getElem?_append_right (by omega)]; simp [hcl])
   have k3 : w5.cell? ⟨gg, xs.length * 5 + 3, none⟩ = some (.string ⟨#[]⟩) := (HO5.out.cellAt (xs.length * 5 + 3) (by omega)).trans (by rw [List.getElem?_append_right (by omega)]; simp [hcl])
   have k4 : w5.cell? ⟨gg, xs.length * 5 + 4, none⟩ = some (.slice none 0 0) := (HO5.out.cellAt (xs.length * 5 + 4) (by omega)).trans (by rw [List.getElem?_append_right (by omega)]; simp [hcl])
   have kf0 := HO5.out.frozenAt (xs.length * 5)
   have kf1 := HO5.out.frozenAt (xs.length * 5 + 1)
   have kf2 := HO5.out.frozenAt (xs.length * 5 + 2)
   have kf3 := HO5.out.frozenAt (xs.length * 5 + 3)
   have kf4 := HO5.out.frozenAt (xs.length * 5 + 4)
   have hdlt : decide ((xs.length : Int) < (xs.length : Int) + 1) = true := decide_eq_true (by omega)
   go_wp2
   obtain ⟨o1, g1⟩ := HO5.out.stored (xs.length * 5) (.int .i64 e.kind)
   obtain ⟨o2, g2⟩ := o1.stored (xs.length * 5 + 1) (.int .i64 e.at_)
   obtain ⟨o3, g3⟩ := o2.stored (xs.length * 5 + 2) (.int .i64 e.n)
   obtain ⟨o4, g4⟩ := o3.stored (xs.length * 5 + 3) (.string e.name)
   obtain ⟨o5, g5⟩ := o4.stored (xs.length * 5 + 4) (.slice A1 e.args.length c1)
   have gs := (((g1.trans g2).trans g3).trans g4).trans g5
   rw [set5 _ _ _ _ _ hcl] at o5
   have hS6 : BoxS P0 X0 g Q _ := ⟨hS.1.1.grown gs (by simp; omega), hS.1.2.grown gs (by simp; omega)⟩
   have HS6 := HS5.out.app gs fun j hj => by cases hj; omega
   have HPU := OwnL.push2 teR_more (C := W.heap.size) (x := e) HO1.out HO2.out o5 (fun b h1 h2 h3 => (gs.block b (Nat.lt_of_lt_of_le h1 hw5) (fun e => by
    rcases HV4.out with h | h
    ·exact h3 (h.trans e.symm)
    ·have : b = gg := Option.some.inj e
     omega)).trans (HB5.out b h1 h2 h3)) (HV4.out.imp (fun h => h) fun h k hk => by (have : gg = k := Option.some.inj hk); omega) HE.out hXW (fun k hk => (HOV.out k hk).1)
   exact bodyPost_end (v := .tuple #[]) (results_none rfl _ _ _) rfl ⟨(fun h => by cases h), fun _ => ⟨rfl, _, HS6, HPU, hS6.1, hS6.2, hb1, hb2, by rw [List.length_append]; simp only [List.length_cons, List.length_nil]; omega⟩⟩
end Go.Proofs.YtmfjlcpjemccmaaGreatDoor
