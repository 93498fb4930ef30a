/- The document's reader of commands: walked. The program's scanner: what it skips, what it runs over. The program's scanner: a run of signs. What the scanner finds by the library's functions; where a token lies while it is made. Each lemma states its own conditions. -/
import Derived.Test.YtmfjlcpjemccmaaGreatDoorTps15
import Derived.Great.BuildSlice
import Derived.Test.YtmfjlcpjemccmaaGreatDoorTps02
import Derived.Test.YtmfjlcpjemccmaaGreatDoorTps04
import Derived.Lib.Strings
import Derived.Lib.Bytealg
namespace Go.Proofs.YtmfjlcpjemccmaaGreatDoor
open Go.RowKit
theorem elTC : Elem Tryz.prog 46 53 17 248 := Elem.mk_ (z := .agg #[.int .i64 0, .int .i64 0, .string ⟨#[]⟩, .string ⟨#[]⟩, .int .i64 0, .int .i64 0, .int .i64 0, .string ⟨#[]⟩, .slice none 0 0, .int .i64 0, .int .i64 0, .int .i64 0, .string ⟨#[]⟩, .slice none 0 0, .slice none 0 0, .slice none 0 0, .slice none 0 0]) (by kernel_rfl) (by kernel_rfl) rfl (by decide)
/-- '[]T{x}' of a struct whose cells are not looked at -/
theorem wpList_oneRow {P : Program} {ops : Array Oper} {rest : List Oper} {o : Oper} {a : Act} {w : World} {Q : Exit → Act → World → Prop} (hg : o.guard = none) (t e : TypeId) (x : Operand) (ho : o.op = .buildSlice t 1 #[(0, x)])
  (cs : List Value) (hx : a.eval x = .agg cs.toArray) {size bytes : Nat} (E : Elem P t e size bytes) (hl : cs.length = size) (hs : size ≤ 1000)
  (h : wpList P ops Q rest (a.put o.dst (.slice (some ⟨w.heap.size, 0, none⟩) 1 1)) (w.alloc (.cells cs.toArray e))) : wpList P ops Q (o :: rest) a w := by
 obtain ⟨i, z, hi, hz, hz1, hz2, hz3⟩ := E.inf
 refine wpList_buildSlice hg t e 1 _ ho cs.toArray i z E.und hi hz (by rw [hz1]; omega) (by rw [hz1]; have := E.pos; omega) ?_ h
 have hp : ((#[(0, x)] : Array (Nat × Operand)).map fun (i, x) => (i, a.eval x)).toList = ((([a.eval x] : List Value).zipIdx 0).map fun x => (x.2, x.1)) := by simp
 rw [hp, hx, hz1]
 have := Great.fill_whole (s := size) E.pos [.agg cs.toArray] ((Array.range (1 * size)).map (z.cells[· % z.cells.size]!)) (by simp [Value.cells, hl]) (by simp)
 rw [this]
 simp [Value.cells]
theorem tcR_one {W : World} {cs : List Value} {x : TC} (h : tcR.R W cs x) : ∀ u ∈ cs, u.oneCell' = true := by
 obtain ⟨xk, xa, xs1, xs2, xi, xe, xargs, xt, xl⟩ := x
 obtain ⟨vi, ve, va, vt, vs, rfl, -, -, -, -, h1, h2, h3, h4, h5⟩ := TCR.opened h
 obtain ⟨_, _, rfl, -⟩ := h1
 obtain ⟨_, _, rfl, -⟩ := h2
 obtain ⟨_, _, rfl, -⟩ := h3
 obtain ⟨_, _, rfl, -⟩ := h4
 obtain ⟨_, _, rfl, -⟩ := h5
 simp [Value.oneCell']
set_option maxRecDepth 20000 in
set_option maxHeartbeats 2000000 in
theorem cmds_step (l : List Tok) (lv : Value) (E g n : Nat) (s : ByteArray) (q0 : RS) (w0 w : World) (hl : Sl tokR w0 lv l) (hn : l.length ≤ 6000) (hok : ∀ t ∈ l, TokOk t) (hm : ∀ t ∈ l, t.text.size ≤ maxLen) (hg : w0.heap.size ≤ g) (hp : q0.1 ≤ l.length) (h0 : Bel w0 w) (h : Rd w g lv q0.1 E q0.2) (hf : q0.2 = true ∨ l.length - q0.1 < n) (hn2 : n ≤ 6001)
  (hblk : ∀ (m : Nat) (q : RS) W, m < n → q.1 ≤ l.length → Bel w0 W → Rd W g lv q.1 E q.2 → (q.2 = true ∨ l.length - q.1 < m) → Calls Tryz.prog 146 #[.pointer (some ⟨g, 0, none⟩)] W fun r w' => ListRes tcR W g lv E (blockD l E m q) r w') :
  Calls Tryz.prog 57 #[.pointer (some ⟨g, 0, none⟩), .string s] w fun r w' => ListRes tcR w g lv E (cmdsD l E n s q0) r w' := by
 have HTX := Hi_ (jTX (g := g) (E := E) hl hn)
 have HCM := Hi_ (fun (m p : Nat) W (hmn : m < n) (hq : p ≤ l.length) (hb : Bel w0 W) (h : Rd W g lv p E false) (hlm : l.length - p < m + 1) => cmd_all l lv E g m p (blockD l E m) w0 W hl hn hok hm hg hq hb h hlm (blockD_G (E := E) hok m) (fun q W' h1 h2 h3 h4 => hblk m q W' hmn h1 h2 h3 h4))
 have hgl := h.lt
 have HR0 := Hi_ h
 have HF0 := Hi_ hf
 obtain ⟨y, hy⟩ : ∃ y, y = cmdsD l E n s q0 := ⟨_, rfl⟩
 have HY0 : Hid ((([] : List TC) ++ (cmdsD l E n s q0).1, (cmdsD l E n s q0).2) = y) := Hi_ hy.symm
 rw [← hy]
 clear hy h hf hblk
 go_enter Tryz.func57, Tryz.ntmps57
 go_wp2
 go_loopw [5] (fun v wr => ∃ (xs : List TC) (q : RS) (m : Nat), Hid (OwnL tcR 53 w.heap.size wr v xs) ∧ Hid (Rd wr g lv q.1 E q.2) ∧ Hid (w.grownBy wr (some g)) ∧ Hid ((xs ++ (cmdsD l E m s q).1, (cmdsD l E m s q).2) = y) ∧ Hid (q.2 = true ∨ l.length - q.1 < m) ∧ q.1 ≤ l.length ∧ xs.length + m = n) (fun v _ => n - lenV v)
 case atStart => exact ⟨[], q0, n, OwnL.nil _ _ _ _, HR0, World.grownBy.refl _ _, HY0, HF0, hp, by simp⟩
 case round =>
  obtain ⟨xs, q, m, HO, HR, HG, HY, HF, hq, hxm⟩ := hrel
  clear HR0 HF0 HY0
  have HM := Hi_ HO.out.len
  obtain ⟨y0, y1, y2, y3, -, yf⟩ := HR.out.go
  obtain ⟨p, f⟩ := q
  dsimp only at y1 y3 hq
  cases f with
  | true =>
   have HE := HY.out
   rw [cmdsD_stop (Or.inl rfl), List.append_nil] at HE
   go_wp2
   go_ret
   exact .mk HE HG.out HR.out (HO.out.sl tcR_more)
  | false =>
   have hlt : l.length - p < m := by
    rcases HF.out with h | h
    ·cases h
    ·exact h
   by_cases hs : tx l p false = s
   ·have e1 : ((tx l p false).toList == s.toList) = true := str_true hs
    have HE := HY.out
    rw [cmdsD_stop (q := (p, false)) (Or.inr hs), List.append_nil] at HE
    clear hs
    go_wp2_with fail
    refine (HTX.out _ (p, false) (grownBel h0 hg HG.out) hq HR.out).mono ?_
    rintro r w1 ⟨rfl, hb1⟩
    have HB := Hi_ (hb1.grown (some g))
    replace HR := Hi_ (HR.out.keep hb1)
    replace HO := Hi_ (HO.out.keep tcR_more hb1)
    clear hb1
    go_wp2
    go_ret
    exact .mk HE (HG.out.trans HB.out) HR.out (HO.out.sl tcR_more)
   ·have e1 : ((tx l p false).toList == s.toList) = false := str_false hs
    obtain ⟨m, rfl⟩ : ∃ m', m = m' + 1 := ⟨m - 1, by omega⟩
    have HGO := Hi_ (cmdsD_go (E := E) (n := m) hs)
    have HGE := Hi_ (cmdD_G (E := E) hok (blockD_G (E := E) hok m) p)
    clear hs
    go_wp2_with fail
    refine (HTX.out _ (p, false) (grownBel h0 hg HG.out) hq HR.out).mono ?_
    rintro r w1 ⟨rfl, hb1⟩
    have HB := Hi_ (hb1.grown (some g))
    have HWW : Hid (wr.heap.size ≤ w1.heap.size) := Hi_ hb1.size
    have HOLT : Hid (∀ k, u5.ownBlock = some k → k < wr.heap.size) := Hi_ fun k hk => by
     obtain ⟨_, ho, -⟩ := HO.out
     exact (ho.lt k hk).2
    replace HR := Hi_ (HR.out.keep hb1)
    clear hb1 y0 y1 y2 y3 yf
    go_wp2_with fail
    refine (HCM.out m p _ (by omega) hq (grownBel h0 hg (HG.out.trans HB.out)) HR.out hlt).mono ?_
    rintro r w2 ⟨hgN, hrN, cs, rfl, hcs⟩
    have HCZ : Hid (w1.heap.size ≤ w2.heap.size) := Hi_ hgN.size
    replace HB := Hi_ (HB.out.trans hgN)
    have HR := Hi_ hrN
    clear hgN hrN
    generalize cmdD l E (blockD l E m) (p, false) = x2 at *
    obtain ⟨x, q2⟩ := x2
    dsimp only at *
    have HCS : Hid (tcR.R (low w1.heap.size w2) cs x) := Hi_ hcs
    have hcl : cs.length = 17 := tcR.len hcs
    have hca : cs.toArray.size = 17 := by simpa using hcl
    clear hcs
    have HOW := Hi_ (HO.out.at_ tcR_more HB.out fun k hk => by cases hk; exact hgl)
    have hwr := HG.out.size
    have hbase : w.heap.size ≤ w2.heap.size := Nat.le_trans hwr HB.out.size
    have hw1 : w.heap.size ≤ w1.heap.size := Nat.le_trans hwr HWW.out
    obtain ⟨cells, ho1, ho2⟩ := HOW.out
    have HO1 := Hi_ ho1
    have HO2 := Hi_ ho2
    have hxs : xs.length ≤ 6000 := by omega
    have HOC : Hid (∀ u ∈ cs, u.oneCell' = true) := Hi_ (tcR_one HCS.out)
    have HYN : Hid ((xs ++ [x] ++ (cmdsD l E m s q2).1, (cmdsD l E m s q2).2) = y) := Hi_ (by rw [← HY.out, HGO.out, List.append_assoc, List.singleton_append])
    clear ho1 ho2 HOW HO HY HGO
    go_wp2_with (first | (refine wpList_oneRow rfl 46 53 (.tmp 19) rfl cs rfl elTC hcl (by decide) ?_) | (at_builtin; refine wpl_app w2 rfl (.tmp 17) (.tmp 20) 46 rfl w.heap.size elTC u5 xs.length _ rfl HO1.out cs rfl hcl HOC.out (by simp only [maxLen]; omega) (by omega) hbase ?_; intro g2 cap w10 hown hg10 hv10; have HP := Hi_ (OwnL.pushed tcR_more (w := w) (E := E) (x := x) (q := q2) HO1.out HO2.out hown hg10 (hv10.imp id fun h k hk => by (have : g2 = k := Option.some.inj hk); omega) (C := w1.heap.size) HCS.out hw1 (fun k hk => Nat.lt_of_lt_of_le (HOLT.out k hk) HWW.out) (HG.out.trans HB.out) hgl HR.out); clear hown hg10 hv10))
    go_roundw
    case rel => exact ⟨xs ++ [x], q2, m, Hi_ HP.out.1, Hi_ HP.out.2.2, Hi_ HP.out.2.1, HYN, Hi_ (HGE.out.2.imp (fun h => h) fun h => by have := HGE.out.1.2.1 hq; omega), HGE.out.1.2.1 hq, by rw [List.length_append]; simp only [List.length_cons, List.length_nil]; omega⟩
    case measure =>
     have hM := HM.out
     unfold lenV at hM
     simp [lenV]
     omega
/-- the document's Cmds and Block -/
theorem cmds_d (l : List Tok) (lv : Value) (E g : Nat) (w0 : World) (hl : Sl tokR w0 lv l) (hn : l.length ≤ 6000) (hok : ∀ t ∈ l, TokOk t) (hm : ∀ t ∈ l, t.text.size ≤ maxLen) (hg : w0.heap.size ≤ g) : ∀ (n : Nat) (s : ByteArray) (q0 : RS) (w : World), n ≤ 6001 → q0.1 ≤ l.length → Bel w0 w → Rd w g lv q0.1 E q0.2 → (q0.2 = true ∨ l.length - q0.1 < n) →
  Calls Tryz.prog 57 #[.pointer (some ⟨g, 0, none⟩), .string s] w fun r w' => ListRes tcR w g lv E (cmdsD l E n s q0) r w' := by
 intro n
 induction n using Nat.strongRecOn with
 | _ n ih =>
  intro s q0 w hn2 hp h0 h hf
  refine cmds_step l lv E g n s q0 w0 w hl hn hok hm hg hp h0 h hf hn2 ?_
  intro m q W hmn hq hb hr hfu
  have HND := Hi_ (jND (g := g) (E := E) hl hn)
  have hgl := hr.lt
  have hq1 := needD_le (l := l) (s := lcurB) (q := q) (by decide) hq
  have HCS := Hi_ (fun W (hb : Bel w0 W) (h : Rd W g lv (needD l lcurB q).1 E (needD l lcurB q).2) => ih m hmn rcurB (needD l lcurB q) W (by omega) hq1 hb h (by
   have h1 := needD_G (l := l) (t := lcurB) (by decide) q
   exact hfu.imp (fun h => h1.2.2 h) fun h => by have := h1.1; omega))
  have hq2 := (cmdsD_G (E := E) hok m rcurB (needD l lcurB q)).2.1 hq1
  have HX : Hid (blockD l E m q = ((cmdsD l E m rcurB (needD l lcurB q)).1, needD l rcurB (cmdsD l E m rcurB (needD l lcurB q)).2)) := Hi_ rfl
  have HR := Hi_ hr
  clear hr hfu ih hf h
  go_enter Tryz.func146, Tryz.ntmps146
  go_wp2_with fail
  refine (HND.out _ q ⟨#[123]⟩ hb hq HR.out).mono ?_
  rintro r w1 ⟨⟨v1, rfl⟩, hr1, hg1⟩
  have HG := Hi_ hg1
  replace HR : Hid (Rd w1 g lv (needD l lcurB q).1 E (needD l lcurB q).2) := Hi_ hr1
  clear hr1 hg1
  generalize needD l lcurB q = q1 at *
  go_wp2_with fail
  refine (HCS.out _ (grownBel hb hg HG.out) HR.out).mono ?_
  rintro r w2 ⟨hg2, hr2, v2, rfl, hsl2⟩
  have HSL := Hi_ (low_mono (B' := W.heap.size) tcR_more HG.out.size hsl2)
  replace HG := Hi_ (HG.out.trans hg2)
  have HR := Hi_ hr2
  clear hg2 hr2 hsl2 HCS
  generalize cmdsD l E m rcurB q1 = x2 at *
  obtain ⟨xs, q2⟩ := x2
  dsimp only at *
  obtain ⟨A2, c2, rfl, -⟩ := id HSL.out
  go_wp2_with fail
  refine (HND.out _ q2 ⟨#[125]⟩ (grownBel hb hg HG.out) hq2 HR.out).mono ?_
  rintro r w3 ⟨⟨v3, rfl⟩, hr3, hg3⟩
  have HSL3 := Hi_ (HSL.out.keep (low_grown hg3 hgl))
  replace HG := Hi_ (HG.out.trans hg3)
  have HR : Hid (Rd w3 g lv (needD l rcurB q2).1 E (needD l rcurB q2).2) := Hi_ hr3
  clear hr3 hg3
  go_wp2
  go_ret
  exact .mk HX.out.symm HG.out HR.out HSL3.out
def Sc (w : World) (g : Nat) (s : ByteArray) (p : Nat) : Prop := Blk w g 99 #[.string s, .int .i64 p]
theorem Sc.go {w : World} {g : Nat} {s : ByteArray} {p : Nat} (h : Sc w g s p) : w.cell? ⟨g, 0, none⟩ = some (.string s) ∧ w.cell? ⟨g, 1, none⟩ = some (.int .i64 p) ∧ w.frozen? ⟨g, 1, none⟩ = false := ⟨h.cell rfl, h.cell rfl, h.frozen 1⟩
theorem Sc.at_ {w : World} {g : Nat} {s : ByteArray} {p q : Nat} {x : Int} (h : Sc w g s p) (hq : x = q) : Sc (w.setCell ⟨g, 1, none⟩ (.int .i64 x)) g s q := by
 have := h.set_ 1 (.int .i64 x)
 rw [hq] at this ⊢
 exact this
theorem Sc.drN {w : World} {g : Nat} {s : ByteArray} {p : Nat} (h : Sc w g s p) (n : Nat) : Sc (w.drewN n) g s p := Blk.keep h ((Bel.rfl_ w).drN n)
theorem Sc.keep {w w' : World} {g : Nat} {s : ByteArray} {p : Nat} (hb : Bel w w') (h : Sc w g s p) : Sc w' g s p := Blk.keep h hb
/-- where a scanner stands -/
def posOf (w : World) (g : Nat) : Nat := match w.cell? ⟨g, 1, none⟩ with
 | some v => (intOf v).toNat
 | none => 0
theorem Sc.pos {w : World} {g : Nat} {s : ByteArray} {p : Nat} (h : Sc w g s p) : posOf w g = p := by
 unfold posOf
 rw [h.go.2.1]
 simp [intOf]
theorem sign_any (s : ByteArray) (p g : Nat) (w : World) (_hs : s.size ≤ 6000) (hp : p < s.size) (h : Sc w g s p) :
  Calls Tryz.prog 108 #[.pointer (some ⟨g, 0, none⟩)] w fun r w' => r = .returned (.int .u8 s[p].toNat) ∧ ∃ n, w' = w.drewN n := by
 obtain ⟨x0, x1, y1⟩ := h.go
 clear h
 have hd : decide (p < s.size) = true := decide_eq_true hp
 go_enter Tryz.func108, Tryz.ntmps108
 go_wp2
 go_quiet (fail)
 go_wp2
 go_quiet (fail)
 go_wp2
 go_ret
 exact ⟨rfl, _, World.drewN_drewN _ _ _⟩
theorem skip_hash {s : ByteArray} {q : Nat} (hq : q < s.size) (h : s[q].toNat = 35) : skipN s q true = skipN s q false := by
 rw [skipN_note hq (by simp), skipN_note hq (by simp [h])]
theorem skip_on {s : ByteArray} {q : Nat} (hq : q < s.size) (h : s[q].toNat ≠ 10) : skipN s q true = skipN s (q + 1) true := by
 rw [skipN_note hq (by simp)]
 have : (s[q].toNat != 10) = true := by simpa using h
 rw [this]
set_option maxRecDepth 20000 in
set_option maxHeartbeats 1000000 in
theorem skip_any (s : ByteArray) (p g : Nat) (w : World) (hs : s.size ≤ 6000) (hp : p ≤ s.size) (h : Sc w g s p) :
  Calls Tryz.prog 61 #[.pointer (some ⟨g, 0, none⟩)] w fun r w' => r = .returned (.tuple #[]) ∧ Sc w' g s (skipN s p false) ∧ w.grownBy w' (some g) := by
 have HS := Hi_ h
 clear h
 go_enter Tryz.func61, Tryz.ntmps61
 go_wp2
 go_loopw [] (fun wr => ∃ q : Nat, q ≤ s.size ∧ Hid (skipN s q false = skipN s p false) ∧ Hid (Sc wr g s q) ∧ Hid (w.grownBy wr (some g))) (fun wr => s.size - posOf wr g)
 case atStart => exact ⟨p, hp, rfl, HS, World.grownBy.refl _ _⟩
 case round =>
  obtain ⟨q, hq, HK, HR, HG⟩ := hrel
  clear HS
  obtain ⟨x0, x1, y1⟩ := HR.out.go
  have HP := Hi_ HR.out.pos
  by_cases hlt : q < s.size
  ·have hd : decide (q < s.size) = true := decide_eq_true hlt
   by_cases hbl : isBl s[q].toNat = true
   ·by_cases h35 : s[q].toNat = 35
    ·rw [h35] at hbl; exact absurd hbl (by decide)
    ·have HN : Hid (skipN s (q + 1) false = skipN s p false) := Hi_ (by rw [← HK.out, skipN_bl hlt (by simp [h35]) hbl])
     unfold isBl at hbl
     by_cases h32 : s[q].toNat = 32
     ·have e1 : ((s[q].toNat : Int) == 32) = true := by simp; omega
      clear hbl h32 h35
      go_wp2
      go_quiet (fail)
      go_wp2
      go_quiet (fail)
      go_wp2
      go_roundw
      case rel => exact ⟨q + 1, by omega, HN, (HR.out.drN _).at_ (by omega), grownS_set (grownS_drN HG.out _) 1 _⟩
      case measure => rw [((HR.out.drN _).at_ (q := q + 1) (by omega)).pos, HP.out]; omega
     ·have e1 : ((s[q].toNat : Int) == 32) = false := by simp; omega
      by_cases h9 : s[q].toNat = 9
      ·have e2 : ((s[q].toNat : Int) == 9) = true := by simp; omega
       clear hbl h32 h35 h9
       go_wp2
       go_quiet (fail)
       go_wp2
       go_quiet (fail)
       go_wp2
       go_roundw
       case rel => exact ⟨q + 1, by omega, HN, (HR.out.drN _).at_ (by omega), grownS_set (grownS_drN HG.out _) 1 _⟩
       case measure => rw [((HR.out.drN _).at_ (q := q + 1) (by omega)).pos, HP.out]; omega
      ·have e2 : ((s[q].toNat : Int) == 9) = false := by simp; omega
       have e3 : ((s[q].toNat : Int) == 10) = true := by simp [h32, h9] at hbl; simp; omega
       clear hbl h32 h35 h9
       go_wp2
       go_quiet (fail)
       go_wp2
       go_quiet (fail)
       go_wp2
       go_roundw
       case rel => exact ⟨q + 1, by omega, HN, (HR.out.drN _).at_ (by omega), grownS_set (grownS_drN HG.out _) 1 _⟩
       case measure => rw [((HR.out.drN _).at_ (q := q + 1) (by omega)).pos, HP.out]; omega
   ·have hbf : isBl s[q].toNat = false := by simpa using hbl
    have HBL := Hi_ hbf
    unfold isBl at hbf
    have e1 : ((s[q].toNat : Int) == 32) = false := by simp at hbf; simp; omega
    have e2 : ((s[q].toNat : Int) == 9) = false := by simp at hbf; simp; omega
    have e3 : ((s[q].toNat : Int) == 10) = false := by simp at hbf; simp; omega
    clear hbl hbf
    by_cases h35 : s[q].toNat = 35
    ·have e4 : ((s[q].toNat : Int) == 35) = true := by simp; omega
     have HH : Hid (skipN s q true = skipN s p false) := Hi_ (by rw [skip_hash hlt h35]; exact HK.out)
     have H35 := Hi_ h35
     clear h35
     go_wp2
     go_quiet (fail)
     go_wp2
     go_quiet (fail)
     go_wp2
     clear x0 x1 y1
     go_loopw [] (fun wr => ∃ r : Nat, q ≤ r ∧ r ≤ s.size ∧ Hid (skipN s r true = skipN s p false) ∧ Hid (Sc wr g s r) ∧ Hid (w.grownBy wr (some g))) (fun wr => s.size - posOf wr g)
     case atStart => exact ⟨q, by omega, by omega, HH, HR.out.drN _, grownS_drN HG.out _⟩
     case round =>
      clear HR HG HH HK e1 e2 e3 e4
      obtain ⟨r, hr1, hr2, HK2, HR, HG⟩ := hrel
      obtain ⟨x0, x1, y1⟩ := HR.out.go
      have HP2 := Hi_ HR.out.pos
      by_cases hrl : r < s.size
      ·have hd2 : decide (r < s.size) = true := decide_eq_true hrl
       by_cases h10 : s[r].toNat = 10
       ·have e5 : ((s[r].toNat : Int) != 10) = false := by simp; omega
        have hqr : q < r := by
         rcases Nat.eq_or_lt_of_le hr1 with h | h
         ·subst h; have := H35.out; omega
         ·exact h
        have HN : Hid (skipN s r false = skipN s p false) := Hi_ (by rw [← skipN_nl (fun h => by rw [getElem!_pos s r h]; exact h10)]; exact HK2.out)
        clear h10
        go_wp2
        go_quiet (fail)
        go_wp2
        go_roundw
        case rel => exact ⟨r, hr2, HN, HR.out.drN _, grownS_drN HG.out _⟩
        case measure => rw [(HR.out.drN _).pos, HP.out]; omega
       ·have e5 : ((s[r].toNat : Int) != 10) = true := by simp; omega
        have HN : Hid (skipN s (r + 1) true = skipN s p false) := Hi_ (by rw [← skip_on hrl h10]; exact HK2.out)
        clear h10
        go_wp2
        go_quiet (fail)
        go_wp2
        go_roundw
        case rel => exact ⟨r + 1, by omega, by omega, HN, (HR.out.drN _).at_ (by omega), grownS_set (grownS_drN HG.out _) 1 _⟩
        case measure => rw [((HR.out.drN _).at_ (q := r + 1) (by omega)).pos, HP2.out]; omega
      ·have hd2 : decide (r < s.size) = false := decide_eq_false hrl
       have HN : Hid (skipN s r false = skipN s p false) := Hi_ (by rw [← skipN_nl (fun h => absurd h hrl)]; exact HK2.out)
       go_wp2
       go_quiet (fail)
       go_wp2
       go_roundw
       case rel => exact ⟨r, hr2, HN, HR.out.drN _, grownS_drN HG.out _⟩
       case measure => rw [(HR.out.drN _).pos, HP.out]; omega
    ·have e4 : ((s[q].toNat : Int) == 35) = false := by simp; omega
     have HN : Hid (skipN s p false = q) := Hi_ (by rw [← HK.out, skipN_stop hlt (by simp [h35]) HBL.out])
     clear h35
     go_wp2
     go_quiet (fail)
     go_wp2
     go_quiet (fail)
     go_wp2
     (try simp only [Exit.inBlock, Exit.then])
     refine bodyPost_ret (results_none rfl _ _ _) rfl ?_
     exact ⟨rfl, by rw [HN.out]; exact HR.out.drN _, grownS_drN HG.out _⟩
  ·have hd : decide (q < s.size) = false := decide_eq_false hlt
   have HN : Hid (skipN s p false = q) := Hi_ (by rw [← HK.out, skipN_end hlt])
   go_wp2
   go_quiet (fail)
   go_wp2
   go_end0
   exact ⟨rfl, by rw [HN.out]; exact HR.out.drN _, grownS_drN HG.out _⟩
set_option maxRecDepth 20000 in
set_option maxHeartbeats 1000000 in
theorem runLD_any (s : ByteArray) (p g : Nat) (w : World) (hs : s.size ≤ 6000) (hp : p ≤ s.size) (h : Sc w g s p) :
  Calls Tryz.prog 110 #[.pointer (some ⟨g, 0, none⟩), .func (.func 111) #[] #[]] w fun r w' => r = .returned (.string (s.extract p (runTo isLD s p))) ∧ Sc w' g s (runTo isLD s p) ∧ w.grownBy w' (some g) := by
 have HS := Hi_ h
 obtain ⟨x0, x1, y1⟩ := h.go
 clear h
 go_enter Tryz.func110, Tryz.ntmps110
 go_wp2
 clear x0 x1 y1
 go_loopw [] (fun wr => ∃ q : Nat, p ≤ q ∧ q ≤ s.size ∧ Hid (runTo isLD s p = runTo isLD s q) ∧ Hid (Sc wr g s q) ∧ Hid (w.grownBy wr (some g))) (fun wr => s.size - posOf wr g)
 case atStart => exact ⟨p, by omega, hp, rfl, HS, World.grownBy.refl _ _⟩
 case round =>
  obtain ⟨q, hpq, hq, HK, HR, HG⟩ := hrel
  clear HS
  obtain ⟨x0, x1, y1⟩ := HR.out.go
  have HP := Hi_ HR.out.pos
  by_cases hlt : q < s.size
  ·have hd : decide (q < s.size) = true := decide_eq_true hlt
   obtain ⟨b, hb⟩ : ∃ b, s[q].toNat = b := ⟨_, rfl⟩
   have HB := Hi_ hb
   have HIT := Hi_ (fun W => (ld_any b W).mono (R' := fun r w' => r = .returned (.bool (isLD b)) ∧ w' = W) fun _ _ h => ⟨h.1, h.2.symm⟩)
   cases hpb : isLD b with
   | true =>
    rw [hpb] at HIT
    have HN : Hid (runTo isLD s p = runTo isLD s (q + 1)) := Hi_ (runTo_step HK.out hlt HB.out hpb)
    clear hpb
    go_wp2
    go_quiet ((go_at_call 111; exact Calls.quiet_of_same (HIT.out _)))
    go_wp2
    go_roundw
    case rel => exact ⟨q + 1, by omega, by omega, HN, (HR.out.drN _).at_ (by omega), grownS_set (grownS_drN HG.out _) 1 _⟩
    case measure => rw [((HR.out.drN _).at_ (q := q + 1) (by omega)).pos, HP.out]; omega
   | false =>
    rw [hpb] at HIT
    have HN : Hid (runTo isLD s p = q) := Hi_ (runTo_done HK.out hlt HB.out hpb)
    clear hpb
    go_wp2
    go_quiet ((go_at_call 111; exact Calls.quiet_of_same (HIT.out _)))
    go_wp2
    go_quiet (fail)
    go_wp2
    go_ret
    exact ⟨by rw [HN.out]; rfl, by rw [HN.out]; exact (HR.out.drN _).drN _, grownS_drN (grownS_drN HG.out _) _⟩
  ·have hd : decide (q < s.size) = false := decide_eq_false hlt
   have HN : Hid (runTo isLD s p = q) := Hi_ (by rw [HK.out, runTo_end hlt])
   go_wp2
   go_quiet (fail)
   go_wp2
   go_quiet (fail)
   go_wp2
   go_ret
   exact ⟨by rw [HN.out]; rfl, by rw [HN.out]; exact (HR.out.drN _).drN _, grownS_drN (grownS_drN HG.out _) _⟩
set_option maxRecDepth 20000 in
set_option maxHeartbeats 1000000 in
theorem runD_any (s : ByteArray) (p g : Nat) (w : World) (hs : s.size ≤ 6000) (hp : p ≤ s.size) (h : Sc w g s p) :
  Calls Tryz.prog 110 #[.pointer (some ⟨g, 0, none⟩), .func (.func 112) #[] #[]] w fun r w' => r = .returned (.string (s.extract p (runTo isD s p))) ∧ Sc w' g s (runTo isD s p) ∧ w.grownBy w' (some g) := by
 have HS := Hi_ h
 obtain ⟨x0, x1, y1⟩ := h.go
 clear h
 go_enter Tryz.func110, Tryz.ntmps110
 go_wp2
 clear x0 x1 y1
 go_loopw [] (fun wr => ∃ q : Nat, p ≤ q ∧ q ≤ s.size ∧ Hid (runTo isD s p = runTo isD s q) ∧ Hid (Sc wr g s q) ∧ Hid (w.grownBy wr (some g))) (fun wr => s.size - posOf wr g)
 case atStart => exact ⟨p, by omega, hp, rfl, HS, World.grownBy.refl _ _⟩
 case round =>
  obtain ⟨q, hpq, hq, HK, HR, HG⟩ := hrel
  clear HS
  obtain ⟨x0, x1, y1⟩ := HR.out.go
  have HP := Hi_ HR.out.pos
  by_cases hlt : q < s.size
  ·have hd : decide (q < s.size) = true := decide_eq_true hlt
   obtain ⟨b, hb⟩ : ∃ b, s[q].toNat = b := ⟨_, rfl⟩
   have HB := Hi_ hb
   have HIT := Hi_ (fun W => (digit_any b W).mono (R' := fun r w' => r = .returned (.bool (isD b)) ∧ w' = W) fun _ _ h => ⟨h.1, h.2.symm⟩)
   cases hpb : isD b with
   | true =>
    rw [hpb] at HIT
    have HN : Hid (runTo isD s p = runTo isD s (q + 1)) := Hi_ (runTo_step HK.out hlt HB.out hpb)
    clear hpb
    go_wp2
    go_quiet ((go_at_call 112; exact Calls.quiet_of_same (HIT.out _)))
    go_wp2
    go_roundw
    case rel => exact ⟨q + 1, by omega, by omega, HN, (HR.out.drN _).at_ (by omega), grownS_set (grownS_drN HG.out _) 1 _⟩
    case measure => rw [((HR.out.drN _).at_ (q := q + 1) (by omega)).pos, HP.out]; omega
   | false =>
    rw [hpb] at HIT
    have HN : Hid (runTo isD s p = q) := Hi_ (runTo_done HK.out hlt HB.out hpb)
    clear hpb
    go_wp2
    go_quiet ((go_at_call 112; exact Calls.quiet_of_same (HIT.out _)))
    go_wp2
    go_quiet (fail)
    go_wp2
    go_ret
    exact ⟨by rw [HN.out]; rfl, by rw [HN.out]; exact (HR.out.drN _).drN _, grownS_drN (grownS_drN HG.out _) _⟩
  ·have hd : decide (q < s.size) = false := decide_eq_false hlt
   have HN : Hid (runTo isD s p = q) := Hi_ (by rw [HK.out, runTo_end hlt])
   go_wp2
   go_quiet (fail)
   go_wp2
   go_quiet (fail)
   go_wp2
   go_ret
   exact ⟨by rw [HN.out]; rfl, by rw [HN.out]; exact (HR.out.drN _).drN _, grownS_drN (grownS_drN HG.out _) _⟩
theorem idx_all : ∀ b : Fin 256, decide (0 ≤ Lib.indexByte signs.data.toList ((b.val : Int).toNat.toUInt8)) = isS b.val := by decide +kernel
theorem idx_isS (b : Nat) (hb : b < 256) : decide (0 ≤ Lib.indexByte signs.data.toList ((b : Int).toNat.toUInt8)) = isS b := idx_all ⟨b, hb⟩
theorem prefix2 (l : List UInt8) (a b : UInt8) : List.isPrefixOf [a, b] l = (l[0]? == some a && l[1]? == some b) := by
 match l with
 | [] => simp [List.isPrefixOf]
 | [x] => simp [List.isPrefixOf]
 | x :: y :: t =>
  rw [Bool.eq_iff_iff]
  simp [List.isPrefixOf]
  exact ⟨fun ⟨h1, h2⟩ => ⟨h1.symm, h2.symm⟩, fun ⟨h1, h2⟩ => ⟨h1.symm, h2.symm⟩⟩
theorem prefix_eq (s : ByteArray) (p : Nat) : Lib.hasPrefix (s.extract p s.size).data.toList [61, 61] = decide (bt s p = 61 ∧ bt s (p + 1) = 61) := by
 unfold Lib.hasPrefix
 have h61 : ∀ i, ((s.data.toList[i]? : Option UInt8) == some 61) = decide (bt s i = 61) := fun i => by
  rw [bt_list, Bool.eq_iff_iff]
  cases h : s.data.toList[i]? with
  | none => simp
  | some x =>
   simp
   constructor
   ·intro h; rw [h]; rfl
   ·intro h; exact UInt8.toNat_inj.1 h
 rw [prefix2, ByteArray.data_extract, Array.toList_extract]
 have hx : ∀ k, ((s.data.toList.extract p s.size)[k]? : Option UInt8) = s.data.toList[p + k]? := fun k => by
  simp only [List.extract_eq_take_drop, List.getElem?_take, List.getElem?_drop]
  split
  ·rfl
  ·symm
   exact List.getElem?_eq_none (by simp; omega)
 rw [hx, hx, h61, h61]
 simp
theorem Blk.other {w : World} {g b : Nat} {t : TypeId} {cs : Array Value} (h : Blk w g t cs) (hne : b ≠ g) (i : Nat) (v : Value) : Blk (w.setCell ⟨b, i, none⟩ v) g t cs :=
 (heap_setCell_other w _ g v (fun e => hne e.symm)).trans h
theorem grownS_new {w wr : World} {row : Option Nat} {b : Nat} (h : w.grownBy wr row) (hb : w.heap.size ≤ b) (i : Nat) (v : Value) : w.grownBy (wr.setCell ⟨b, i, none⟩ v) row :=
 ⟨h.os, h.tape, h.output, by simpa using h.size, fun k hk hne => (heap_setCell_other wr _ k v (fun e => by simp only at e; omega)).trans (h.block k hk hne)⟩
theorem grownS_al {w wr : World} {row : Option Nat} (h : w.grownBy wr row) (o : Obj) : w.grownBy (wr.alloc o) row :=
 ⟨h.os, h.tape, h.output, by have := h.size; simp; omega, fun k hk hne => (heap_alloc_old wr o (by have := h.size; omega)).trans (h.block k hk hne)⟩
/-- a token that is made: the scanner, the result's place, the token's -/
structure TS (w0 w : World) (g : Nat) (s : ByteArray) (p H K : Nat) (ra rb rc a b c : Value) : Prop where
 sc : Sc w g s p
 r : Blk w H 43 #[ra, rb, rc]
 t : Blk w K 43 #[a, b, c]
 gr : w0.grownBy w (some g)
 hg : g < w0.heap.size
 hH : w0.heap.size ≤ H
 hK : w0.heap.size ≤ K
 hHK : H ≠ K
section
variable {w0 w w' : World} {g : Nat} {s : ByteArray} {p H K : Nat} {ra rb rc a b c : Value}
theorem TS.drN (h : TS w0 w g s p H K ra rb rc a b c) (n : Nat) : TS w0 (w.drewN n) g s p H K ra rb rc a b c :=
 { h with sc := h.sc.drN n, r := h.r.keep ((Bel.rfl_ w).drN n), t := h.t.keep ((Bel.rfl_ w).drN n), gr := grownS_drN h.gr n }
theorem TS.call {q : Nat} (h : TS w0 w g s p H K ra rb rc a b c) (hs : Sc w' g s q) (hg : w.grownBy w' (some g)) : TS w0 w' g s q H K ra rb rc a b c :=
 { h with sc := hs, r := h.r.grown hg (by have := h.hg; have := h.hH; intro e; have := Option.some.inj e; omega), t := h.t.grown hg (by have := h.hg; have := h.hK; intro e; have := Option.some.inj e; omega), gr := h.gr.trans hg }
theorem TS.at_ {q : Nat} {x : Int} (h : TS w0 w g s p H K ra rb rc a b c) (hq : x = q) : TS w0 (w.setCell ⟨g, 1, none⟩ (.int .i64 x)) g s q H K ra rb rc a b c :=
 h.call (h.sc.at_ hq) (grownS_one _ _ _ _)
theorem TS.t0 (h : TS w0 w g s p H K ra rb rc a b c) (v : Value) : TS w0 (w.setCell ⟨K, 0, none⟩ v) g s p H K ra rb rc v b c :=
 { h with sc := Blk.other h.sc (by have := h.hg; have := h.hK; omega) 0 v, r := h.r.other (by have := h.hHK; omega) 0 v, t := h.t.set_ 0 v, gr := grownS_new h.gr h.hK 0 v }
theorem TS.t2 (h : TS w0 w g s p H K ra rb rc a b c) (v : Value) : TS w0 (w.setCell ⟨K, 2, none⟩ v) g s p H K ra rb rc a b v :=
 { h with sc := Blk.other h.sc (by have := h.hg; have := h.hK; omega) 2 v, r := h.r.other (by have := h.hHK; omega) 2 v, t := h.t.set_ 2 v, gr := grownS_new h.gr h.hK 2 v }
theorem TS.r0 (h : TS w0 w g s p H K ra rb rc a b c) (v : Value) : TS w0 (w.setCell ⟨H, 0, none⟩ v) g s p H K v rb rc a b c :=
 { h with sc := Blk.other h.sc (by have := h.hg; have := h.hH; omega) 0 v, r := h.r.set_ 0 v, t := h.t.other h.hHK 0 v, gr := grownS_new h.gr h.hH 0 v }
theorem TS.r1 (h : TS w0 w g s p H K ra rb rc a b c) (v : Value) : TS w0 (w.setCell ⟨H, 1, none⟩ v) g s p H K ra v rc a b c :=
 { h with sc := Blk.other h.sc (by have := h.hg; have := h.hH; omega) 1 v, r := h.r.set_ 1 v, t := h.t.other h.hHK 1 v, gr := grownS_new h.gr h.hH 1 v }
theorem TS.r2 (h : TS w0 w g s p H K ra rb rc a b c) (v : Value) : TS w0 (w.setCell ⟨H, 2, none⟩ v) g s p H K ra rb v a b c :=
 { h with sc := Blk.other h.sc (by have := h.hg; have := h.hH; omega) 2 v, r := h.r.set_ 2 v, t := h.t.other h.hHK 2 v, gr := grownS_new h.gr h.hH 2 v }
end
end Go.Proofs.YtmfjlcpjemccmaaGreatDoor
