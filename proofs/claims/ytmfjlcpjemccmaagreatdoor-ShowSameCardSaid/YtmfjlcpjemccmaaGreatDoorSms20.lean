/- The document's reader of commands: walked. A struct of a list that is copied into a variable of its own, by one law. How many parts an expression of a tree has: both counts walked; none at all. Each lemma states its own conditions. -/
import Derived.Test.YtmfjlcpjemccmaaGreatDoorSms18
import Derived.Test.YtmfjlcpjemccmaaGreatDoorSms19
import Derived.Great.BuildSlice
import Derived.Deep.MidRow
import Derived.Deep.WholeRow
import Derived.Great.Walk
import Derived.Test.YtmfjlcpjemccmaaGreatDoorSms07
namespace Go.Proofs.YtmfjlcpjemccmaaGreatDoor
open Go.RowKit
theorem elTC : Elem Tryz.prog 46 53 17 248 := Elem.mk_ (z := .agg #[.int .i64 0, .int .i64 0, .string ⟨#[]⟩, .string ⟨#[]⟩, .int .i64 0, .int .i64 0, .int .i64 0, .string ⟨#[]⟩, .slice none 0 0, .int .i64 0, .int .i64 0, .int .i64 0, .string ⟨#[]⟩, .slice none 0 0, .slice none 0 0, .slice none 0 0, .slice none 0 0]) (by kernel_rfl) (by kernel_rfl) rfl (by decide)
/-- '[]T{x}' of a struct whose cells are not looked at -/
theorem wpList_oneRow {P : Program} {ops : Array Oper} {rest : List Oper} {o : Oper} {a : Act} {w : World} {Q : Exit → Act → World → Prop} (hg : o.guard = none) (t e : TypeId) (x : Operand) (ho : o.op = .buildSlice t 1 #[(0, x)])
  (cs : List Value) (hx : a.eval x = .agg cs.toArray) {size bytes : Nat} (E : Elem P t e size bytes) (hl : cs.length = size) (hs : size ≤ 1000)
  (h : wpList P ops Q rest (a.put o.dst (.slice (some ⟨w.heap.size, 0, none⟩) 1 1)) (w.alloc (.cells cs.toArray e))) : wpList P ops Q (o :: rest) a w := by
 obtain ⟨i, z, hi, hz, hz1, hz2, hz3⟩ := E.inf
 refine wpList_buildSlice hg t e 1 _ ho cs.toArray i z E.und hi hz (by rw [hz1]; omega) (by rw [hz1]; have := E.pos; omega) ?_ h
 have hp : ((#[(0, x)] : Array (Nat × Operand)).map fun (i, x) => (i, a.eval x)).toList = ((([a.eval x] : List Value).zipIdx 0).map fun x => (x.2, x.1)) := by simp
 rw [hp, hx, hz1]
 have := Great.fill_whole (s := size) E.pos [.agg cs.toArray] ((Array.range (1 * size)).map (z.cells[· % z.cells.size]!)) (by simp [Value.cells, hl]) (by simp)
 rw [this]
 simp [Value.cells]
theorem tcR_one {W : World} {cs : List Value} {x : TC} (h : tcR.R W cs x) : ∀ u ∈ cs, u.oneCell' = true := by
 obtain ⟨xk, xa, xs1, xs2, xi, xe, xargs, xt, xl⟩ := x
 obtain ⟨vi, ve, va, vt, vs, rfl, -, -, -, -, h1, h2, h3, h4, h5⟩ := TCR.opened h
 obtain ⟨_, _, rfl, -⟩ := h1
 obtain ⟨_, _, rfl, -⟩ := h2
 obtain ⟨_, _, rfl, -⟩ := h3
 obtain ⟨_, _, rfl, -⟩ := h4
 obtain ⟨_, _, rfl, -⟩ := h5
 simp [Value.oneCell']
set_option maxRecDepth 20000 in
set_option maxHeartbeats 2000000 in
theorem cmds_step (l : List Tok) (lv : Value) (E g n : Nat) (s : ByteArray) (q0 : RS) (w0 w : World) (hl : Sl tokR w0 lv l) (hn : l.length ≤ 6000) (hok : ∀ t ∈ l, TokOk t) (hm : ∀ t ∈ l, t.text.size ≤ maxLen) (hg : w0.heap.size ≤ g) (hp : q0.1 ≤ l.length) (h0 : Bel w0 w) (h : Rd w g lv q0.1 E q0.2) (hf : q0.2 = true ∨ l.length - q0.1 < n) (hn2 : n ≤ 6001)
  (hblk : ∀ (m : Nat) (q : RS) W, m < n → q.1 ≤ l.length → Bel w0 W → Rd W g lv q.1 E q.2 → (q.2 = true ∨ l.length - q.1 < m) → Calls Tryz.prog 146 #[.pointer (some ⟨g, 0, none⟩)] W fun r w' => ListRes tcR W g lv E (blockD l E m q) r w') :
  Calls Tryz.prog 57 #[.pointer (some ⟨g, 0, none⟩), .string s] w fun r w' => ListRes tcR w g lv E (cmdsD l E n s q0) r w' := by
 have HTX := Hi_ (jTX (g := g) (E := E) hl hn)
 have HCM := Hi_ (fun (m p : Nat) W (hmn : m < n) (hq : p ≤ l.length) (hb : Bel w0 W) (h : Rd W g lv p E false) (hlm : l.length - p < m + 1) => cmd_all l lv E g m p (blockD l E m) w0 W hl hn hok hm hg hq hb h hlm (blockD_G (E := E) hok m) (fun q W' h1 h2 h3 h4 => hblk m q W' hmn h1 h2 h3 h4))
 have hgl := h.lt
 have HR0 := Hi_ h
 have HF0 := Hi_ hf
 obtain ⟨y, hy⟩ : ∃ y, y = cmdsD l E n s q0 := ⟨_, rfl⟩
 have HY0 : Hid ((([] : List TC) ++ (cmdsD l E n s q0).1, (cmdsD l E n s q0).2) = y) := Hi_ hy.symm
 rw [← hy]
 clear hy h hf hblk
 go_enter Tryz.func57, Tryz.ntmps57
 go_wp2
 go_loopw [5] (fun v wr => ∃ (xs : List TC) (q : RS) (m : Nat), Hid (OwnL tcR 53 w.heap.size wr v xs) ∧ Hid (Rd wr g lv q.1 E q.2) ∧ Hid (w.grownBy wr (some g)) ∧ Hid ((xs ++ (cmdsD l E m s q).1, (cmdsD l E m s q).2) = y) ∧ Hid (q.2 = true ∨ l.length - q.1 < m) ∧ q.1 ≤ l.length ∧ xs.length + m = n) (fun v _ => n - lenV v)
 case atStart => exact ⟨[], q0, n, OwnL.nil _ _ _ _, HR0, World.grownBy.refl _ _, HY0, HF0, hp, by simp⟩
 case round =>
  obtain ⟨xs, q, m, HO, HR, HG, HY, HF, hq, hxm⟩ := hrel
  clear HR0 HF0 HY0
  have HM := Hi_ HO.out.len
  obtain ⟨y0, y1, y2, y3, -, yf⟩ := HR.out.go
  obtain ⟨p, f⟩ := q
  dsimp only at y1 y3 hq
  cases f with
  | true =>
   have HE := HY.out
   rw [cmdsD_stop (Or.inl rfl), List.append_nil] at HE
   go_wp2
   go_ret
   exact .mk HE HG.out HR.out (HO.out.sl tcR_more)
  | false =>
   have hlt : l.length - p < m := by
    rcases HF.out with h | h
    ·cases h
    ·exact h
   by_cases hs : tx l p false = s
   ·have e1 : ((tx l p false).toList == s.toList) = true := str_true hs
    have HE := HY.out
    rw [cmdsD_stop (q := (p, false)) (Or.inr hs), List.append_nil] at HE
    clear hs
    go_wp2_with fail
    refine (HTX.out _ (p, false) (grownBel h0 hg HG.out) hq HR.out).mono ?_
    rintro r w1 ⟨rfl, hb1⟩
    have HB := Hi_ (hb1.grown (some g))
    replace HR := Hi_ (HR.out.keep hb1)
    replace HO := Hi_ (HO.out.keep tcR_more hb1)
    clear hb1
    go_wp2
    go_ret
    exact .mk HE (HG.out.trans HB.out) HR.out (HO.out.sl tcR_more)
   ·have e1 : ((tx l p false).toList == s.toList) = false := str_false hs
    obtain ⟨m, rfl⟩ : ∃ m', m = m' + 1 := ⟨m - 1, by omega⟩
    have HGO := Hi_ (cmdsD_go (E := E) (n := m) hs)
    have HGE := Hi_ (cmdD_G (E := E) hok (blockD_G (E := E) hok m) p)
    clear hs
    go_wp2_with fail
    refine (HTX.out _ (p, false) (grownBel h0 hg HG.out) hq HR.out).mono ?_
    rintro r w1 ⟨rfl, hb1⟩
    have HB := Hi_ (hb1.grown (some g))
    have HWW : Hid (wr.heap.size ≤ w1.heap.size) := Hi_ hb1.size
    have HOLT : Hid (∀ k, u5.ownBlock = some k → k < wr.heap.size) := Hi_ fun k hk => by
     obtain ⟨_, ho, -⟩ := HO.out
     exact (ho.lt k hk).2
    replace HR := Hi_ (HR.out.keep hb1)
    clear hb1 y0 y1 y2 y3 yf
    go_wp2_with fail
    refine (HCM.out m p _ (by omega) hq (grownBel h0 hg (HG.out.trans HB.out)) HR.out hlt).mono ?_
    rintro r w2 ⟨hgN, hrN, cs, rfl, hcs⟩
    have HCZ : Hid (w1.heap.size ≤ w2.heap.size) := Hi_ hgN.size
    replace HB := Hi_ (HB.out.trans hgN)
    have HR := Hi_ hrN
    clear hgN hrN
    generalize cmdD l E (blockD l E m) (p, false) = x2 at *
    obtain ⟨x, q2⟩ := x2
    dsimp only at *
    have HCS : Hid (tcR.R (low w1.heap.size w2) cs x) := Hi_ hcs
    have hcl : cs.length = 17 := tcR.len hcs
    have hca : cs.toArray.size = 17 := by simpa using hcl
    clear hcs
    have HOW := Hi_ (HO.out.at_ tcR_more HB.out fun k hk => by cases hk; exact hgl)
    have hwr := HG.out.size
    have hbase : w.heap.size ≤ w2.heap.size := Nat.le_trans hwr HB.out.size
    have hw1 : w.heap.size ≤ w1.heap.size := Nat.le_trans hwr HWW.out
    obtain ⟨cells, ho1, ho2⟩ := HOW.out
    have HO1 := Hi_ ho1
    have HO2 := Hi_ ho2
    have hxs : xs.length ≤ 6000 := by omega
    have HOC : Hid (∀ u ∈ cs, u.oneCell' = true) := Hi_ (tcR_one HCS.out)
    have HYN : Hid ((xs ++ [x] ++ (cmdsD l E m s q2).1, (cmdsD l E m s q2).2) = y) := Hi_ (by rw [← HY.out, HGO.out, List.append_assoc, List.singleton_append])
    clear ho1 ho2 HOW HO HY HGO
    go_wp2_with (first | (refine wpList_oneRow rfl 46 53 (.tmp 19) rfl cs rfl elTC hcl (by decide) ?_) | (at_builtin; refine wpl_app w2 rfl (.tmp 17) (.tmp 20) 46 rfl w.heap.size elTC u5 xs.length _ rfl HO1.out cs rfl hcl HOC.out (by simp only [maxLen]; omega) (by omega) hbase ?_; intro g2 cap w10 hown hg10 hv10; have HP := Hi_ (OwnL.pushed tcR_more (w := w) (E := E) (x := x) (q := q2) HO1.out HO2.out hown hg10 (hv10.imp id fun h k hk => by (have : g2 = k := Option.some.inj hk); omega) (C := w1.heap.size) HCS.out hw1 (fun k hk => Nat.lt_of_lt_of_le (HOLT.out k hk) HWW.out) (HG.out.trans HB.out) hgl HR.out); clear hown hg10 hv10))
    go_roundw
    case rel => exact ⟨xs ++ [x], q2, m, Hi_ HP.out.1, Hi_ HP.out.2.2, Hi_ HP.out.2.1, HYN, Hi_ (HGE.out.2.imp (fun h => h) fun h => by have := HGE.out.1.2.1 hq; omega), HGE.out.1.2.1 hq, by rw [List.length_append]; simp only [List.length_cons, List.length_nil]; omega⟩
    case measure =>
     have hM := HM.out
     unfold lenV at hM
     simp [lenV]
     omega
/-- the document's Cmds and Block -/
theorem cmds_d (l : List Tok) (lv : Value) (E g : Nat) (w0 : World) (hl : Sl tokR w0 lv l) (hn : l.length ≤ 6000) (hok : ∀ t ∈ l, TokOk t) (hm : ∀ t ∈ l, t.text.size ≤ maxLen) (hg : w0.heap.size ≤ g) : ∀ (n : Nat) (s : ByteArray) (q0 : RS) (w : World), n ≤ 6001 → q0.1 ≤ l.length → Bel w0 w → Rd w g lv q0.1 E q0.2 → (q0.2 = true ∨ l.length - q0.1 < n) →
  Calls Tryz.prog 57 #[.pointer (some ⟨g, 0, none⟩), .string s] w fun r w' => ListRes tcR w g lv E (cmdsD l E n s q0) r w' := by
 intro n
 induction n using Nat.strongRecOn with
 | _ n ih =>
  intro s q0 w hn2 hp h0 h hf
  refine cmds_step l lv E g n s q0 w0 w hl hn hok hm hg hp h0 h hf hn2 ?_
  intro m q W hmn hq hb hr hfu
  have HND := Hi_ (jND (g := g) (E := E) hl hn)
  have hgl := hr.lt
  have hq1 := needD_le (l := l) (s := lcurB) (q := q) (by decide) hq
  have HCS := Hi_ (fun W (hb : Bel w0 W) (h : Rd W g lv (needD l lcurB q).1 E (needD l lcurB q).2) => ih m hmn rcurB (needD l lcurB q) W (by omega) hq1 hb h (by
   have h1 := needD_G (l := l) (t := lcurB) (by decide) q
   exact hfu.imp (fun h => h1.2.2 h) fun h => by have := h1.1; omega))
  have hq2 := (cmdsD_G (E := E) hok m rcurB (needD l lcurB q)).2.1 hq1
  have HX : Hid (blockD l E m q = ((cmdsD l E m rcurB (needD l lcurB q)).1, needD l rcurB (cmdsD l E m rcurB (needD l lcurB q)).2)) := Hi_ rfl
  have HR := Hi_ hr
  clear hr hfu ih hf h
  go_enter Tryz.func146, Tryz.ntmps146
  go_wp2_with fail
  refine (HND.out _ q ⟨#[123]⟩ hb hq HR.out).mono ?_
  rintro r w1 ⟨⟨v1, rfl⟩, hr1, hg1⟩
  have HG := Hi_ hg1
  replace HR : Hid (Rd w1 g lv (needD l lcurB q).1 E (needD l lcurB q).2) := Hi_ hr1
  clear hr1 hg1
  generalize needD l lcurB q = q1 at *
  go_wp2_with fail
  refine (HCS.out _ (grownBel hb hg HG.out) HR.out).mono ?_
  rintro r w2 ⟨hg2, hr2, v2, rfl, hsl2⟩
  have HSL := Hi_ (low_mono (B' := W.heap.size) tcR_more HG.out.size hsl2)
  replace HG := Hi_ (HG.out.trans hg2)
  have HR := Hi_ hr2
  clear hg2 hr2 hsl2 HCS
  generalize cmdsD l E m rcurB q1 = x2 at *
  obtain ⟨xs, q2⟩ := x2
  dsimp only at *
  obtain ⟨A2, c2, rfl, -⟩ := id HSL.out
  go_wp2_with fail
  refine (HND.out _ q2 ⟨#[125]⟩ (grownBel hb hg HG.out) hq2 HR.out).mono ?_
  rintro r w3 ⟨⟨v3, rfl⟩, hr3, hg3⟩
  have HSL3 := Hi_ (HSL.out.keep (low_grown hg3 hgl))
  replace HG := Hi_ (HG.out.trans hg3)
  have HR : Hid (Rd w3 g lv (needD l rcurB q2).1 E (needD l rcurB q2).2) := Hi_ hr3
  clear hr3 hg3
  go_wp2
  go_ret
  exact .mk HX.out.symm HG.out HR.out HSL3.out
theorem run_alloc_ {P : Program} {ρ : Operand → Value} {o : Oper} {w : World} (ty : TypeId) (ho : o.op = .alloc ty) {i : TypeInfo} (hi : P.info? ty = some i) {z : Value} (hz : i.zero = some z) :
  (execOp ρ o).run P w = .ok (.value (.pointer (some ⟨w.heap.size, 0, none⟩))) (w.alloc (.cells z.cells ty)) := by
 unfold execOp
 simp [ho, Instr.alloc, zeroValue, typeInfo, hi, hz, newVar, newRow, Sem.run_bind]
/-- 'x := l[i]': load, a new block, store -/
theorem wpList_copy {P : Program} {ops : Array Oper} {rest : List Oper} {o1 o2 o3 : Oper} {a : Act} {w : World} {Q : Exit → Act → World → Prop} (ty : TypeId) (x y z : Operand) (hg1 : o1.guard = none) (hg2 : o2.guard = none) (hg3 : o3.guard = none)
  (ho1 : o1.op = .load ty x) (ho2 : o2.op = .alloc ty) (ho3 : o3.op = .store ty y z) (b o : Nat) (hx : a.eval x = .pointer (some ⟨b, o, none⟩)) (cs : List Value) (hc : CellsAt w b o cs)
  {t : TypeId} {size bytes : Nat} (E : Elem P t ty size bytes) (d : TypeDesc) (hu : P.underlying ty = some d) (hd : d.isRow = true) (hl : cs.length = size) (hone : ∀ u ∈ cs, u.oneCell' = true)
  (hy : ((a.put o1.dst (.agg cs.toArray)).put o2.dst (.pointer (some ⟨w.heap.size, 0, none⟩))).eval y = .pointer (some ⟨w.heap.size, 0, none⟩))
  (hz : ((a.put o1.dst (.agg cs.toArray)).put o2.dst (.pointer (some ⟨w.heap.size, 0, none⟩))).eval z = .agg cs.toArray)
  (h : wpList P ops Q rest (((a.put o1.dst (.agg cs.toArray)).put o2.dst (.pointer (some ⟨w.heap.size, 0, none⟩))).put o3.dst undef) (w.alloc (.cells cs.toArray ty))) : wpList P ops Q (o1 :: o2 :: o3 :: rest) a w := by
 obtain ⟨i, zv, hi, hz0, hz1, hz2, hz3⟩ := E.inf
 refine wpList_load_mid hg1 ty x ho1 b o hx cs d hc hu hd (by rw [hi, Option.map_some, hz1, hl]) ?_
 refine Great.wpList_runTo hg2 o2.dst rfl _ _ (run_alloc_ ty ho2 hi hz0) ?_
 refine wpList_store_row hg3 ty y z ho3 w.heap.size cs.toArray hy hz ty zv.cells (heap_alloc_last _ _) (by rw [hi, Option.map_some, hz1]; simp [hl]) (by simp [hz3, hl]) (all_oneCell_toArray hone) ?_
 rw [World.setRow_alloc_new]
 exact h
theorem und_of {o : Option TypeDesc} (h : o.map (·.isRow) = some true) : ∃ d, o = some d ∧ d.isRow = true := by
 cases o with
 | none => cases h
 | some d => exact ⟨d, rfl, by simpa using h⟩
theorem undTC : ∃ d, Tryz.prog.underlying 53 = some d ∧ d.isRow = true := und_of (by kernel_rfl)
theorem undTF : ∃ d, Tryz.prog.underlying 51 = some d ∧ d.isRow = true := und_of (by kernel_rfl)
/-- a command copied -/
theorem copyTC {ops : Array Oper} {rest : List Oper} {o1 o2 o3 : Oper} {a : Act} {w : World} {Q : Exit → Act → World → Prop} (x y z : Operand) (hg1 : o1.guard = none) (hg2 : o2.guard = none) (hg3 : o3.guard = none)
  (ho1 : o1.op = .load 53 x) (ho2 : o2.op = .alloc 53) (ho3 : o3.op = .store 53 y z) (b o : Nat) (hx : a.eval x = .pointer (some ⟨b, o, none⟩)) (cs : List Value) (hc : CellsAt w b o cs) {c : TC} (hr : TCR w c cs)
  (hy : ((a.put o1.dst (.agg cs.toArray)).put o2.dst (.pointer (some ⟨w.heap.size, 0, none⟩))).eval y = .pointer (some ⟨w.heap.size, 0, none⟩))
  (hz : ((a.put o1.dst (.agg cs.toArray)).put o2.dst (.pointer (some ⟨w.heap.size, 0, none⟩))).eval z = .agg cs.toArray)
  (h : wpList Tryz.prog ops Q rest (((a.put o1.dst (.agg cs.toArray)).put o2.dst (.pointer (some ⟨w.heap.size, 0, none⟩))).put o3.dst undef) (w.alloc (.cells cs.toArray 53))) : wpList Tryz.prog ops Q (o1 :: o2 :: o3 :: rest) a w := by
 obtain ⟨d, hu, hd⟩ := undTC
 exact wpList_copy _ x y z hg1 hg2 hg3 ho1 ho2 ho3 b o hx cs hc elTC d hu hd (tcR.len hr) (tcR_one hr) hy hz h
/-- where the elements of a slice lie -/
theorem Sl.lies {α : Type} {r : Rep α} {w : World} {A : Option Addr} {n c : Nat} {xs : List α} (h : Sl r w (.slice A n c) xs) (hp : 0 < xs.length) : ∃ b o, A = some ⟨b, o, none⟩ ∧ ∀ k x, xs[k]? = some x → r.At w b (o + k * r.size) x := by
 obtain ⟨A', c', hv, -, -, h4⟩ := h
 injection hv with hv
 subst hv
 exact h4 hp
/-- where an element of a list of commands lies -/
theorem tcAt {w : World} {A : Option Addr} {n c : Nat} {xs : List TC} (h : Sl tcR w (.slice A n c) xs) {k : Nat} {x : TC} (hk : xs[k]? = some x) :
  ∃ b o cs, A = some ⟨b, o, none⟩ ∧ TCR w x cs ∧ CellsAt w b (o + k * 17) cs := by
 obtain ⟨A', c', hv, -, -, h4⟩ := h
 injection hv with hv
 subst hv
 obtain ⟨b, o, rfl, h5⟩ := h4 (by have := (List.getElem?_eq_some_iff.1 hk).1; omega)
 obtain ⟨cs, h6, h7⟩ := h5 k x hk
 exact ⟨b, o, cs, rfl, h6, h7⟩
/-- the cells of a command in a block of its own -/
theorem tcCells {w : World} {x : TC} {cs : List Value} (h : TCR w x cs) : ∃ vi ve va vt vs, cs = [.int .i64 x.kind, .int .i64 x.at_, .string x.name, .string x.other, .int .i64 x.index.kind, .int .i64 x.index.at_, .int .i64 x.index.n, .string x.index.name, vi, .int .i64 x.expr.kind, .int .i64 x.expr.at_, .int .i64 x.expr.n, .string x.expr.name, ve, va, vt, vs] ∧
  x.name.size ≤ maxLen ∧ x.other.size ≤ maxLen ∧ x.index.name.size ≤ maxLen ∧ x.expr.name.size ≤ maxLen ∧ Sl teR w vi x.index.args ∧ Sl teR w ve x.expr.args ∧ Sl teR w va x.args ∧ Sl tcR w vt x.thn ∧ Sl tcR w vs x.els := by
 obtain ⟨k, a, s, t, i, e, args, thn, els⟩ := x
 exact TCR.opened h
set_option maxRecDepth 20000 in
theorem size_step (k a0 n : Int) (nm : ByteArray) (args : List TE) (IH : ∀ x ∈ args, ∀ (m : Int) (val : Value) (W : World), 0 ≤ m → m ≤ 15 → TEV W x val →
   Calls Tryz.prog 148 #[val, .int .i64 m] W fun r w' => r = .returned (.int .i64 (x.size m)) ∧ Bel W w')
  (m : Int) (val : Value) (w : World) (h0 : 0 ≤ m) (h15 : m ≤ 15) (h : TEV w (.mk k a0 n nm args) val) :
  Calls Tryz.prog 148 #[val, .int .i64 m] w fun r w' => r = .returned (.int .i64 ((TE.mk k a0 n nm args).size m)) ∧ Bel w w' := by
 obtain ⟨v, rfl, hnm, A, c, rfl, hc, hm, hA⟩ := h
 have HI := Hi_ IH; clear IH
 have HA := Hi_ hA; clear hA
 have HT : Hid (sizeE args 1 m = (TE.mk k a0 n nm args).size m) := Hi_ (by rw [TE.size])
 generalize (TE.mk k a0 n nm args).size m = T at HT ⊢
 have hlm : args.length ≤ 9223372036854775807 := by have := hm.1; simp only [maxLen] at this; simp only [TE.args] at hc; omega
 simp only [TE.kind, TE.at_, TE.n, TE.name, TE.args] at HA hc ⊢
 clear hm
 go_enter Tryz.func148, Tryz.ntmps148
 go_wp2
 go_loopw [5, 11] (fun a i wr => ∃ (j : Nat) (x : Int), a = .int .i64 x ∧ i = .int .i64 j ∧ j ≤ args.length ∧ 1 ≤ x ∧ x ≤ m + 1 ∧ Hid (sizeE (args.drop j) x m = T) ∧ Hid (Bel w wr)) (fun _ i _ => args.length - (intOf i).toNat)
 case atStart => exact ⟨0, 1, rfl, rfl, by omega, by omega, by omega, by simpa using HT, (Bel.rfl_ w).al _⟩
 case round =>
  obtain ⟨j, x, rfl, rfl, hj, hx1, hx2, HS, HB⟩ := hrel
  clear HT
  by_cases hlt : j < args.length
  ·obtain ⟨q, hq⟩ : ∃ e, args[j]? = some e := ⟨_, List.getElem?_eq_getElem hlt⟩
   obtain ⟨b, o, rfl, hA⟩ := HA.out (by omega)
   obtain ⟨B, mm, cc, hs, hqs, y0, y1, y2, y3, y4⟩ := teR.cells hA hq
   have y0 := HB.out.cell y0
   have y1 := HB.out.cell y1
   have y2 := HB.out.cell y2
   have y3 := HB.out.cell y3
   have y4 := HB.out.cell y4
   have HQ := Hi_ hq; have HSL := Hi_ (hs.keep HB.out); clear hq hs hA HA
   have HQV : Hid (∀ W, Bel wr W → TEV W q (.agg #[.int .i64 q.kind, .int .i64 q.at_, .int .i64 q.n, .string q.name, .slice B mm cc])) := Hi_ fun W hb => ⟨_, rfl, hqs, HSL.out.keep hb⟩
   clear hqs
   generalize q.kind = qk at *
   generalize q.n = qn at *
   generalize q.at_ = qa at *
   generalize q.name = qs at *
   by_cases hmx : m < x
   ·have HR : Hid (x = T) := Hi_ (by have := HS.out; rw [sizeE_drop HQ.out, if_pos hmx] at this; exact this)
    go_wp2
    go_ret
    exact ⟨by rw [HR.out]; rfl, HB.out.al _⟩
   ·have HR : Hid (sizeE (args.drop (j + 1)) (x + q.size (m - x)) m = T) := Hi_ (by have := HS.out; rw [sizeE_drop HQ.out, if_neg hmx] at this; exact this)
    have hle := TE.size_le q (m - x) (by omega)
    go_wp2_with fail
    refine (HI.out q (List.mem_of_getElem? HQ.out) (m - x) _ _ (by omega) (by omega) (HQV.out _ ((Bel.rfl_ _).al _))).mono ?_
    rintro e w' ⟨rfl, hb⟩
    have HB' := Hi_ ((HB.out.al _).tr hb); clear hb
    generalize q.size (m - x) = z at hle HR
    go_wp2
    go_roundw
    case rel => exact ⟨j + 1, x + z, by go_num, by go_num, by omega, by omega, by omega, HR, HB'⟩
    case measure => simp [intOf]; omega
  ·have HR : Hid (x = T) := Hi_ (by have := HS.out; rw [sizeE_end (by omega)] at this; exact this)
   go_wp2
   go_ret
   exact ⟨by rw [HR.out]; rfl, HB.out⟩
theorem size_any : ∀ (q : TE) (m : Int) (val : Value) (w : World), 0 ≤ m → m ≤ 15 → TEV w q val →
  Calls Tryz.prog 148 #[val, .int .i64 m] w fun r w' => r = .returned (.int .i64 (q.size m)) ∧ Bel w w' :=
 TE.ind fun k a0 n nm args ih m val w h0 h15 h => size_step k a0 n nm args ih m val w h0 h15 h
set_option maxRecDepth 20000 in
theorem partsOf_step (k a0 n : Int) (nm : ByteArray) (args : List TE) (IH : ∀ x ∈ args, ∀ (m : Int) (val : Value) (W : World), 0 ≤ m → m ≤ 15 → TEV W x val →
   Calls Tryz.prog 80 #[val, .int .i64 m] W fun r w' => r = .returned (.int .i64 (x.size m)) ∧ Bel W w')
  (m : Int) (val : Value) (w : World) (h0 : 0 ≤ m) (h15 : m ≤ 15) (h : TEV w (.mk k a0 n nm args) val) :
  Calls Tryz.prog 80 #[val, .int .i64 m] w fun r w' => r = .returned (.int .i64 ((TE.mk k a0 n nm args).size m)) ∧ Bel w w' := by
 obtain ⟨v, rfl, hnm, A, c, rfl, hc, hm, hA⟩ := h
 have HI := Hi_ IH; clear IH
 have HA := Hi_ hA; clear hA
 have HT : Hid (sizeE args 1 m = (TE.mk k a0 n nm args).size m) := Hi_ (by rw [TE.size])
 generalize (TE.mk k a0 n nm args).size m = T at HT ⊢
 have hlm : args.length ≤ 9223372036854775807 := by have := hm.1; simp only [maxLen] at this; simp only [TE.args] at hc; omega
 simp only [TE.kind, TE.at_, TE.n, TE.name, TE.args] at HA hc ⊢
 clear hm
 go_enter Tryz.func80, Tryz.ntmps80
 go_wp2
 go_loopw [5, 6] (fun a i wr => ∃ (j : Nat) (x : Int), a = .int .i64 x ∧ i = .int .i64 j ∧ j ≤ args.length ∧ 1 ≤ x ∧ x ≤ m + 1 ∧ Hid (sizeE (args.drop j) x m = T) ∧ Hid (Bel (w.alloc (.cells #[.int .i64 k, .int .i64 a0, .int .i64 n, .string nm, .slice A args.length c] 49)) wr)) (fun _ i _ => args.length - (intOf i).toNat)
 case atStart => exact ⟨0, 1, rfl, rfl, by omega, by omega, by omega, by simpa using HT, Bel.rfl_ _⟩
 case round =>
  obtain ⟨j, x, rfl, rfl, hj, hx1, hx2, HS, HB⟩ := hrel
  clear HT
  have z2 : wr.cell? ⟨w.heap.size, 4, none⟩ = some (.slice A args.length c) := ((Blk.new w 49 #[.int .i64 k, .int .i64 a0, .int .i64 n, .string nm, .slice A args.length c]).keep HB.out).cell rfl
  have HB1 := Hi_ (((Bel.rfl_ w).al _).tr HB.out)
  by_cases hlt : j < args.length
  ·obtain ⟨q, hq⟩ : ∃ e, args[j]? = some e := ⟨_, List.getElem?_eq_getElem hlt⟩
   obtain ⟨b, o, rfl, hA⟩ := HA.out (by omega)
   obtain ⟨B, mm, cc, hs, hqs, y0, y1, y2, y3, y4⟩ := teR.cells hA hq
   have y0 := HB1.out.cell y0
   have y1 := HB1.out.cell y1
   have y2 := HB1.out.cell y2
   have y3 := HB1.out.cell y3
   have y4 := HB1.out.cell y4
   have HQ := Hi_ hq; have HSL := Hi_ (hs.keep HB1.out); clear hq hs hA HA
   have HQV : Hid (∀ W, Bel wr W → TEV W q (.agg #[.int .i64 q.kind, .int .i64 q.at_, .int .i64 q.n, .string q.name, .slice B mm cc])) := Hi_ fun W hb => ⟨_, rfl, hqs, HSL.out.keep hb⟩
   clear hqs
   generalize q.kind = qk at *
   generalize q.n = qn at *
   generalize q.at_ = qa at *
   generalize q.name = qs at *
   by_cases hmx : m < x
   ·have HR : Hid (x = T) := Hi_ (by have := HS.out; rw [sizeE_drop HQ.out, if_pos hmx] at this; exact this)
    go_wp2
    go_ret
    exact ⟨by rw [HR.out]; rfl, HB1.out⟩
   ·have HR : Hid (sizeE (args.drop (j + 1)) (x + q.size (m - x)) m = T) := Hi_ (by have := HS.out; rw [sizeE_drop HQ.out, if_neg hmx] at this; exact this)
    have hle := TE.size_le q (m - x) (by omega)
    have hxm : x ≤ m := by omega
    go_wp2_with fail
    refine (HI.out q (List.mem_of_getElem? HQ.out) (m - x) _ _ (by omega) (by omega) (HQV.out _ (Bel.rfl_ _))).mono ?_
    rintro e w' ⟨rfl, hb⟩
    have HB' := Hi_ (HB.out.tr hb); clear hb
    generalize q.size (m - x) = z at hle HR
    go_wp2
    go_roundw
    case rel => exact ⟨j + 1, x + z, by go_num, by go_num, by omega, by omega, by omega, HR, HB'⟩
    case measure => simp [intOf]; omega
  ·have HR : Hid (x = T) := Hi_ (by have := HS.out; rw [sizeE_end (by omega)] at this; exact this)
   go_wp2
   go_ret
   exact ⟨by rw [HR.out]; rfl, HB1.out⟩
theorem partsOf_any : ∀ (q : TE) (m : Int) (val : Value) (w : World), 0 ≤ m → m ≤ 15 → TEV w q val →
  Calls Tryz.prog 80 #[val, .int .i64 m] w fun r w' => r = .returned (.int .i64 (q.size m)) ∧ Bel w w' :=
 TE.ind fun k a0 n nm args ih m val w h0 h15 h => partsOf_step k a0 n nm args ih m val w h0 h15 h
set_option maxRecDepth 20000 in
theorem noExpr_any (e : TE) (val : Value) (w : World) (h : TEV w e val) (hl : e.args.length ≤ maxLen) : Calls Tryz.prog 39 #[val] w fun r w' => r = .returned (.bool e.none_) ∧ Bel w w' := by
 obtain ⟨v, rfl, hnm, A, c, rfl, -⟩ := h
 have HT : Hid (e.none_ = (decide (e.kind = 0) && decide (e.n = 0) && decide (e.name = emp) && decide (e.args.length = 0))) := Hi_ rfl
 generalize e.none_ = T at *
 generalize e.kind = k at *
 generalize e.at_ = a at *
 generalize e.n = n at *
 generalize e.name = s at *
 generalize e.args.length = m at *
 have hlm : m ≤ 9223372036854775807 := by simp only [maxLen] at hl; omega
 clear hnm hl
 by_cases h1 : k = 0
 ·have d1 : (k == 0) = true := by simpa using h1
  by_cases h2 : n = 0
  ·have d2 : (n == 0) = true := by simpa using h2
   by_cases h3 : s = emp
   ·have d3 : (s.toList == []) = true := lit_true h3
    by_cases h4 : m = 0
    ·have d4 : ((m : Int) == 0) = true := by simp; omega
     have HT2 : Hid (true = T) := Hi_ (by rw [HT.out, decide_eq_true h1, decide_eq_true h2, decide_eq_true h3, decide_eq_true h4]; rfl)
     clear h1 h2 h3 h4 HT
     go_enter Tryz.func39, Tryz.ntmps39
     go_wp2
     go_ret
     exact ⟨by rw [← HT2.out]; rfl, (Bel.rfl_ w).al _⟩
    ·have d4 : ((m : Int) == 0) = false := by simp; omega
     have HT2 : Hid (false = T) := Hi_ (by rw [HT.out, decide_eq_false h4, Bool.and_false])
     clear h1 h2 h3 h4 HT
     go_enter Tryz.func39, Tryz.ntmps39
     go_wp2
     go_ret
     exact ⟨by rw [← HT2.out]; rfl, (Bel.rfl_ w).al _⟩
   ·have d3 : (s.toList == []) = false := lit_false h3
    have HT2 : Hid (false = T) := Hi_ (by rw [HT.out, decide_eq_false h3, Bool.and_false, Bool.false_and])
    clear h1 h2 h3 HT
    go_enter Tryz.func39, Tryz.ntmps39
    go_wp2
    go_ret
    exact ⟨by rw [← HT2.out]; rfl, (Bel.rfl_ w).al _⟩
  ·have d2 : (n == 0) = false := by simpa using h2
   have HT2 : Hid (false = T) := Hi_ (by rw [HT.out, decide_eq_false h2, Bool.and_false, Bool.false_and, Bool.false_and])
   clear h1 h2 HT
   go_enter Tryz.func39, Tryz.ntmps39
   go_wp2
   go_ret
   exact ⟨by rw [← HT2.out]; rfl, (Bel.rfl_ w).al _⟩
 ·have d1 : (k == 0) = false := by simpa using h1
  have HT2 : Hid (false = T) := Hi_ (by rw [HT.out, decide_eq_false h1, Bool.false_and, Bool.false_and, Bool.false_and])
  clear h1 HT
  go_enter Tryz.func39, Tryz.ntmps39
  go_wp2
  go_ret
  exact ⟨by rw [← HT2.out]; rfl, (Bel.rfl_ w).al _⟩
set_option maxRecDepth 20000 in
theorem none_any (e : TE) (val : Value) (w : World) (h : TEV w e val) (hl : e.args.length ≤ maxLen) : Calls Tryz.prog 151 #[val] w fun r w' => r = .returned (.bool e.none_) ∧ Bel w w' := by
 obtain ⟨v, rfl, hnm, A, c, rfl, -⟩ := h
 have HT : Hid (e.none_ = (decide (e.kind = 0) && decide (e.n = 0) && decide (e.name = emp) && decide (e.args.length = 0))) := Hi_ rfl
 generalize e.none_ = T at *
 generalize e.kind = k at *
 generalize e.at_ = a at *
 generalize e.n = n at *
 generalize e.name = s at *
 generalize e.args.length = m at *
 have hlm : m ≤ 9223372036854775807 := by simp only [maxLen] at hl; omega
 clear hnm hl
 by_cases h1 : k = 0
 ·have d1 : (k == 0) = true := by simpa using h1
  by_cases h2 : n = 0
  ·have d2 : (n == 0) = true := by simpa using h2
   by_cases h3 : s = emp
   ·have d3 : (s.toList == []) = true := lit_true h3
    by_cases h4 : m = 0
    ·have d4 : ((m : Int) == 0) = true := by simp; omega
     have HT2 : Hid (true = T) := Hi_ (by rw [HT.out, decide_eq_true h1, decide_eq_true h2, decide_eq_true h3, decide_eq_true h4]; rfl)
     clear h1 h2 h3 h4 HT
     go_enter Tryz.func151, Tryz.ntmps151
     go_wp2
     go_ret
     exact ⟨by rw [← HT2.out]; rfl, (Bel.rfl_ w).al _⟩
    ·have d4 : ((m : Int) == 0) = false := by simp; omega
     have HT2 : Hid (false = T) := Hi_ (by rw [HT.out, decide_eq_false h4, Bool.and_false])
     clear h1 h2 h3 h4 HT
     go_enter Tryz.func151, Tryz.ntmps151
     go_wp2
     go_ret
     exact ⟨by rw [← HT2.out]; rfl, (Bel.rfl_ w).al _⟩
   ·have d3 : (s.toList == []) = false := lit_false h3
    have HT2 : Hid (false = T) := Hi_ (by rw [HT.out, decide_eq_false h3, Bool.and_false, Bool.false_and])
    clear h1 h2 h3 HT
    go_enter Tryz.func151, Tryz.ntmps151
    go_wp2
    go_ret
    exact ⟨by rw [← HT2.out]; rfl, (Bel.rfl_ w).al _⟩
  ·have d2 : (n == 0) = false := by simpa using h2
   have HT2 : Hid (false = T) := Hi_ (by rw [HT.out, decide_eq_false h2, Bool.and_false, Bool.false_and, Bool.false_and])
   clear h1 h2 HT
   go_enter Tryz.func151, Tryz.ntmps151
   go_wp2
   go_ret
   exact ⟨by rw [← HT2.out]; rfl, (Bel.rfl_ w).al _⟩
 ·have d1 : (k == 0) = false := by simpa using h1
  have HT2 : Hid (false = T) := Hi_ (by rw [HT.out, decide_eq_false h1, Bool.false_and, Bool.false_and, Bool.false_and])
  clear h1 HT
  go_enter Tryz.func151, Tryz.ntmps151
  go_wp2
  go_ret
  exact ⟨by rw [← HT2.out]; rfl, (Bel.rfl_ w).al _⟩
end Go.Proofs.YtmfjlcpjemccmaaGreatDoor
