/- A list of commands: walked. Each lemma states its own conditions. -/
import Derived.Test.YtgkpplbomciehaaStt17
namespace Go.Proofs.Ytgkpplbomciehaa
set_option maxRecDepth 20000
set_option maxHeartbeats 8000000
open Go.RowKit
section
variable {o:Oper}{ρ:Operand→Value}{W:World}{x y:Operand}{t2:TypeId}{k l m:Int}
theorem b4k(ho:o.op=.binOp .add 3 x y t2)(hx:ρ x=.int .i64 k)(hy:ρ y=.int .i64 l)(h0:0≤k)(h1:k≤1000000)(h2:0≤l)(h3:l≤1000000)(hm:k+l=m):(execOp ρ o).run Try.prog W=.ok (.value (.int .i64 m)) W:=by
 subst hm;have hw:IntKind.i64.wrap (k+l)=k+l:=by rw[IntKind.wrap_i64];omega
 simp[execOp,ho,hx,hy,hw,go_sem]
end
theorem c2P(E:Env)(hp:Prog E.ps)(N:Nat)(HONE:c3n E N):b9p E N:=by
 intro p l at0 T σ0 w vl hA hL hvl hN h0 h1;have HON:=Lib.hid HONE;have HSL:=Lib.hid hvl;have HLL:=Lib.hid hL;have HS:Hid (E.fuel - σ0.steps≤N):=Lib.hid hN;have HA0:=Lib.hid hA;have HPR:=Lib.hid hp;obtain⟨A,c,rfl,hll⟩:=b0R hvl;clear hvl hL hN hA HONE hp;go_enter Try.func114,Try.ntmps114;go_wp2;go_loopw [3,13] (fun a i wr=>∃(j:Nat) (at_:Int) (σ:Mc),i=.int .i64 j∧j≤l.length∧a=.int .i64 at_∧0≤at_∧at_≤1000∧Hid (Reach E.ps E.fuel σ0 σ)∧Hid (AtS E p (b1G (l.drop j) at_++T) σ wr)∧Hid (Stays E.w0.heap.size p.lo w wr)) (fun _ i _=>l.length-(intOf i).toNat)
 case atStart=>exact⟨0,at0,σ0,rfl,Nat.zero_le _,rfl,h0,h1,Lib.hid (Reach.rfl_ _),HA0,Lib.hid (Stays.rfl_ _ _ _)⟩
 case round =>
  obtain⟨j,at_,σ,rfl,hj,rfl,ha0,ha1,HR,HA,HST⟩:=hrel;obtain⟨WO,hWO⟩:∃W,W=wr:=⟨_,rfl⟩;subst hWO;clear HA0 h0 h1;by_cases hlt:j<l.length
  rotate_left
  ·have hdd:decide ((j:Int)<l.length)=false:=decide_eq_false (by omega);have hjl:j=l.length:=by omega
   subst hjl;have HE:Hid (AtS E p T σ WO):=Lib.hid (by have:=HA.out;rw[List.drop_length] at this;exact this);clear HA;go_wp2;go_ret;exact⟨true,rfl,Res.on HR.out HST.out HE.out⟩
  have hdd:decide ((j:Int)<l.length)=true:=decide_eq_true (by omega);obtain⟨x,hx⟩:∃x,l[j]? = some x:=⟨_,List.getElem?_eq_getElem hlt⟩;obtain⟨b,o,cs,rfl,hcs,hca⟩:=HSL.out.elem hx;have HA1:Hid (AtS E p (.cmd x at_::(b1G (l.drop (j+1)) (at_+x.cnt)++T)) σ WO):=Lib.hid (by have:=HA.out;rw[b9h hx] at this;exact this);obtain⟨z,hok,-⟩:=HA1.out.ok;obtain⟨hk0,hk1,hfin,-⟩:=id hok;have hcn:=PC.cnt_eq x;have HB:=Lib.hid HA1.out.bel;have HSTS:=Lib.hid HR.out.steps;have HX0:Hid (PCV E.w0 x (.agg cs.toArray)):=Lib.hid ⟨cs,hcs,rfl⟩;have i0:(0:Int)≤j:=by omega
  have i1:(j:Int)<l.length:=by omega
  have HFT:=Lib.hid hok.thn;have HFE:=Lib.hid hok.els;have HCS:Hid (PCR E.w0 x cs):=Lib.hid hcs;have HCA:=Lib.hid (hca.keep HB.out);have hct:b0r x.thn≤1000:=by omega
  have hce:b0r x.els≤1000:=by omega
  have hNN:E.fuel - σ.steps≤N:=by have:=HSTS.out;have:=HS.out;omega
  clear hcs hca hok hfin HA;go_upto_region 4 with(refine b8h (.tmp 15) (.tmp 10) (.tmp 16) rfl rfl rfl rfl rfl rfl b (o+j*12) (by exact rfl) cs HCA.out HCS.out (by exact rfl) (by exact rfl) ?_);have HBX:Hid (Bel WO (WO.alloc (.cells cs.toArray CMT))):=Lib.hid ((Bel.rfl_ WO).al _);have HK:=Lib.hid (Blk.new WO CMT cs.toArray);have HA2:=Lib.hid (HA1.out.keep HBX.out);have HST2:=Lib.hid (HST.out.tr (Stays.bel HBX.out HB.out.size));have HON1:=Lib.hid (HON.out p x at_ _ σ _ (.agg cs.toArray) HA2.out HLL.out HX0.out hNN);obtain⟨vi,ve,va,vt,vs,hq,-,-,-,hst,hsl⟩:=b1Z HCS.out;obtain⟨At,ct,rfl,-⟩:=b0R hst;obtain⟨Al,cl,rfl,-⟩:=b0R hsl;have HST1:=Lib.hid hst;have HSL1:=Lib.hid hsl;have HL12:Hid (cs.length=12):=Lib.hid (pcR.len HCS.out);have HC10:Hid (cs.toArray[10]? = some (.slice At x.thn.length ct)):=Lib.hid (by rw[hq];rfl);have HC11:Hid (cs.toArray[11]? = some (.slice Al x.els.length cl)):=Lib.hid (by rw[hq];rfl);clear hq hst hsl HA1 HST HCS HCA HX0 HBX;generalize hW1:WO.alloc _=W1 at *;clear hW1;generalize WO.heap.size=K at *;refine b1K ?_;try dsimp only[List.append]
  refine b0M (some 17) (.pointer (some ⟨E.r,0,none⟩)) (by kernel_rfl) ?_;refine b0M (some 18) (.pointer (some ⟨p.fb,0,none⟩)) (by kernel_rfl) ?_;refine b0M (some 19) (.agg cs.toArray) (b0S 120 (.tmp 10) b5x K 0 cs (b0g HK.out 0 (by rw[Nat.zero_add];simp)) HL12.out) ?_;refine b0M (some 20) (.int .i64 at_) (by kernel_rfl) ?_;refine b0s (some 21) 147 #[.pointer (some ⟨E.r,0,none⟩),.pointer (some ⟨p.fb,0,none⟩),.agg cs.toArray,.int .i64 at_] HON1.out ?_;rintro y W3 ⟨b1,rfl,σ',hr1,hs1,ht1,hf1⟩;refine⟨_,rfl,?_⟩;have HK3:=Lib.hid (HK.out.kept hs1.j HK.out.lt (by decide));have HST3:=Lib.hid (HST2.out.tr hs1);have HR3:=Lib.hid (HR.out.tr hr1);clear HON1 hs1 HK HA2 hr1;cases b1 with
  | false =>
   obtain⟨ho,d,hd⟩:=hf1 rfl;have HO:=Lib.hid ho;have HD:=Lib.hid hd;clear hf1 ht1 ho hd;refine b0M (some 22) (.bool true) (by kernel_rfl) ?_;refine b0o ?_;try simp only[Act.put,List.setIfInBounds_toArray,List.set_cons_zero,List.set_cons_succ]
   go_wp2;go_ret;exact⟨false,rfl,Res.over HR3.out HST3.out HO.out HD.out⟩
  | true =>
   have HA3:=Lib.hid (ht1 rfl);clear hf1 ht1;have HB3:=Lib.hid HA3.out.bel;refine b0M (some 22) (.bool false) (by kernel_rfl) ?_;refine b0o ?_;try simp only[Act.put,List.setIfInBounds_toArray,List.set_cons_zero,List.set_cons_succ]
   go_upto_region 6 with fail;refine wp_region_held_drew (S:=fun W=>Bel W3 W) (by kernel_rfl) ((Bel.rfl_ W3).dr) (fun hS=>?_);refine b0A (i:=0) (some 23) (.int .i64 at_) rfl hS (fun W _=>by kernel_rfl) ?_;refine b0A (i:=1) (some 24) (.pointer (some ⟨K,10,none⟩)) rfl hS (fun W _=>by kernel_rfl) ?_;refine b0A (i:=2) (some 25) (.slice At x.thn.length ct) rfl hS (fun W hb=>b0p ((HK3.out.keep hb).cell (i:=10) HC10.out)) ?_;refine b0A (i:=5) (some 28) (.pointer (some ⟨K,11,none⟩)) rfl hS (fun W _=>by kernel_rfl) ?_;refine b0A (i:=6) (some 29) (.slice Al x.els.length cl) rfl hS (fun W hb=>b0p ((HK3.out.keep hb).cell (i:=11) HC11.out)) ?_;refine b0v (i:=3) (some 26) rfl 143 #[.slice At x.thn.length ct] (b5K _ _ _ (HST1.out.keep (HB3.out.tr hS)) HFT.out.2.2.1 hct) ?_;rintro y2 W9 ⟨rfl,hb⟩;refine⟨_,rfl,hS.tr hb,fun hS=>?_⟩;refine b0A (i:=4) (some 27) (.int .i64 (1+b0r x.thn:Int)) rfl hS (fun W _=>b4k (k:=1) (l:=(b0r x.thn)) rfl (by kernel_rfl) (by kernel_rfl) (by omega) (by omega) (by omega) (by omega) rfl) ?_;refine b0v (i:=7) (some 30) rfl 143 #[.slice Al x.els.length cl] (b5K _ _ _ (HSL1.out.keep (HB3.out.tr hS)) HFE.out.2.2.1 hce) ?_;rintro y2 W9 ⟨rfl,hb⟩;refine⟨_,rfl,hS.tr hb,fun hS=>?_⟩;refine b0A (i:=8) (some 31) (.int .i64 (1+b0r x.thn+b0r x.els:Int)) rfl hS (fun W _=>b4k (k:=(1+b0r x.thn:Int)) (l:=(b0r x.els)) rfl (by kernel_rfl) (by kernel_rfl) (by omega) (by omega) (by omega) (by omega) rfl) ?_;refine b0A (i:=9) (some 32) (.int .i64 (at_+x.cnt)) rfl hS (fun W _=>b4k (k:=at_) (l:=(1+b0r x.thn+b0r x.els:Int)) rfl (by kernel_rfl) (by kernel_rfl) (by omega) (by omega) (by omega) (by omega) (by omega)) ?_;refine b0A (i:=10) (some 3) (.int .i64 (at_+x.cnt)) rfl hS (fun W _=>by kernel_rfl) ?_;refine wpAnyH_done (by kernel_rfl) ?_ _;try simp only[Act.put,List.setIfInBounds_toArray,List.set_cons_zero,List.set_cons_succ]
   have HA4:=Lib.hid (HA3.out.keep hS);have HST4:=Lib.hid (HST3.out.tr (Stays.bel hS HB3.out.size));clear hS HA3 HST3 HK3 HST1 HSL1 HST2;have hw1:IntKind.i64.wrap ((j:Int)+1)=j+1:=by rw[IntKind.wrap_i64];omega
   go_wp2;go_roundw
   case rel=>exact⟨j+1,at_+x.cnt,_,by go_num,by omega,rfl,by omega,by omega,HR3,HA4,HST4⟩
   case measure=>simp[intOf];omega
def Mc.on(σ:Mc)(F:Fr)(rest:List Fr)(a:Int)(T:List Tk):Mc:={ σ with steps:=σ.steps+1,frames:={ F with at_:=a,tasks:=T }::rest,out:=σ.out++[⟨1,F.num,a,0,0,0⟩] }
section
variable {ps:List PF}{fuel:Int}{σ:Mc}{F:Fr}{rest:List Fr}{x:PC}{a:Int}{T:List Tk}
theorem Mc.do_fuel(hfr:σ.frames=F::rest)(ht:F.tasks=.cmd x a::T)(hs:σ.steps=fuel):σ.do_ ps fuel={ σ with out:=σ.out++[⟨7,F.num,a,0,0,1⟩],over:=true }:=by
 rw[Mc.do_cmd hfr ht,if_pos hs];unfold Mc.end_ Mc.num;rw[hfr]
theorem Mc.do_on(hfr:σ.frames=F::rest)(ht:F.tasks=.cmd x a::T)(hs:σ.steps≠fuel)(h3:x.kind≠3):σ.do_ ps fuel=(σ.on F rest a T).cmd x a { F with at_:=a,tasks:=T }:=by
 rw[Mc.do_cmd hfr ht,if_neg hs,if_neg h3];rfl
theorem Mc.do_read(hfr:σ.frames=F::rest)(ht:F.tasks=.cmd x a::T)(hs:σ.steps≠fuel)(hk:x.kind=4):σ.do_ ps fuel =
  { σ.on F rest a T with inp:=σ.inp.tail,frames:={ F with at_:=a,tasks:=T,vars:=b2c F.vars x.var 0 (σ.inp.headD 0) }::rest,out:=σ.out++[⟨1,F.num,a,0,0,0⟩]++[⟨3,F.num,a,0,0,σ.inp.headD 0⟩]++[⟨2,F.num,a,x.var,0,σ.inp.headD 0⟩] }:=by
 rw[Mc.do_on hfr ht hs (by omega)];unfold Mc.cmd;rw[if_pos hk];rfl
theorem Mc.do_put(hfr:σ.frames=F::rest)(ht:F.tasks=.cmd x a::T)(hs:σ.steps≠fuel)(hk:x.kind=2):σ.do_ ps fuel =
  if b4R F.vars x=0 then(σ.on F rest a T).write a x.var (x.index.val F.vars).1 (x.expr.val F.vars).1 else(σ.on F rest a T).end_ a (b4R F.vars x):=by
 rw[Mc.do_on hfr ht hs (by omega)];unfold Mc.cmd b4R;dsimp only;rw[if_neg (by omega)];by_cases h1:(x.index.val F.vars).2≠0
 ·rw[if_pos ⟨hk,h1⟩,if_pos h1,if_neg h1]
 rw[if_neg (fun h=>h1 h.2),if_neg h1];by_cases h2:(x.expr.val F.vars).2≠0
 ·rw[if_pos h2,if_pos h2,if_neg h2]
 rw[if_neg h2,if_neg h2,if_pos hk];split
 ·rw[if_pos rfl]
 ·rw[if_neg (by decide)]
theorem Mc.do_fail(hfr:σ.frames=F::rest)(ht:F.tasks=.cmd x a::T)(hs:σ.steps≠fuel)(h2:x.kind≠2)(h3:x.kind≠3)(h4:x.kind≠4)(hv:(x.expr.val F.vars).2≠0):σ.do_ ps fuel=(σ.on F rest a T).end_ a (x.expr.val F.vars).2:=by
 rw[Mc.do_on hfr ht hs h3];unfold Mc.cmd;dsimp only;rw[if_neg h4,if_neg (fun h=>h2 h.1),if_pos hv]
theorem Mc.do_set(hfr:σ.frames=F::rest)(ht:F.tasks=.cmd x a::T)(hs:σ.steps≠fuel)(hk:x.kind=1)(hv:(x.expr.val F.vars).2=0):σ.do_ ps fuel=(σ.on F rest a T).write a x.var 0 (x.expr.val F.vars).1:=by
 rw[Mc.do_on hfr ht hs (by omega)];unfold Mc.cmd;dsimp only;rw[if_neg (by omega),if_neg (fun h=>by omega),if_neg (by simpa using hv),if_neg (by omega),if_pos hk]
theorem Mc.do_print(hfr:σ.frames=F::rest)(ht:F.tasks=.cmd x a::T)(hs:σ.steps≠fuel)(hk:x.kind=5)(hv:(x.expr.val F.vars).2=0):σ.do_ ps fuel={ σ.on F rest a T with out:=σ.out++[⟨1,F.num,a,0,0,0⟩]++[⟨4,F.num,a,0,0,(x.expr.val F.vars).1⟩] }:=by
 rw[Mc.do_on hfr ht hs (by omega)];unfold Mc.cmd;dsimp only;rw[if_neg (by omega),if_neg (fun h=>by omega),if_neg (by simpa using hv),if_neg (by omega),if_neg (by omega),if_pos hk];rfl
theorem Mc.do_if(hfr:σ.frames=F::rest)(ht:F.tasks=.cmd x a::T)(hs:σ.steps≠fuel)(hk:x.kind=6)(hv:(x.expr.val F.vars).2=0):σ.do_ ps fuel=σ.on F rest a ((if(x.expr.val F.vars).1≠0 then b1G x.thn (a+1) else b1G x.els (a+1+b0r x.thn))++T):=by
 rw[Mc.do_on hfr ht hs (by omega)];unfold Mc.cmd;dsimp only;rw[if_neg (by omega),if_neg (fun h=>by omega),if_neg (by simpa using hv),if_neg (by omega),if_neg (by omega),if_neg (by omega),if_pos hk];rfl
theorem Mc.do_while(hfr:σ.frames=F::rest)(ht:F.tasks=.cmd x a::T)(hs:σ.steps≠fuel)(hk:x.kind=7)(hv:(x.expr.val F.vars).2=0):σ.do_ ps fuel=σ.on F rest a (if(x.expr.val F.vars).1≠0 then b1G x.thn (a+1)++.cmd x a::T else T):=by
 rw[Mc.do_on hfr ht hs (by omega)];unfold Mc.cmd;dsimp only;rw[if_neg (by omega),if_neg (fun h=>by omega),if_neg (by simpa using hv),if_neg (by omega),if_neg (by omega),if_neg (by omega),if_neg (by omega)];split
 ·rfl
 ·rfl
theorem Good.next{ps:List PF}{fuel:Int}{σ σ':Mc}{F F':Fr}{rest rest':List Fr}(hp:Prog ps)(h:Good ps fuel σ F rest)(hd:σ.do_ ps fuel=σ')(hfr:σ'.frames=F'::rest')(ho:σ'.over=false):Good ps fuel σ' F' rest'∧Reach ps fuel σ σ':=by
 refine⟨?_,Reach.one h.on hd⟩;obtain⟨-,h1⟩:=h.step hp;rw[hd] at h1;rcases h1 with h1 | ⟨f',r',hg,-⟩
 ·rw[ho] at h1;cases h1
 ·have:=hg.fr;rw[hfr] at this;injection this with e1 e2;subst e1 e2;exact hg
theorem Good.outs(h:Good ps fuel σ F rest)(hf:fuel≤10000):σ.out.length≤70000∧σ.steps≤10000:=by
 have h1:=h.len;have h2:=h.s1;omega
end
structure NextC(E:Env)(p:Spot)(x:PC)(a:Int)(T:List Tk)(σ:Mc)(w:World)(F:Fr)(z:List Int):Prop where
 good:Good E.ps E.fuel σ F p.rest
 num:F.num=p.num
 fn:F.fn=p.fn
 tk:F.tasks=.cmd x a::T
 fr:FrM w p.lo p.fb p.num F.at_ F.vars
 run:b8c E w σ (p.rest.length+1)
 fits:b4Z z F.vars
 ok:b7J E.ps z x a
 is:∃calls:Int,calls≤(E.ps.length:Int)-1∧CmdIs (E.ps.map PF.params) z calls x
theorem AtS.next{E:Env}{p:Spot}{T:List Tk}{x:PC}{a:Int}{σ:Mc}{w:World}(h:AtS E p (.cmd x a::T) σ w):∃F z,NextC E p x a T σ w F z:=by
 obtain⟨F,h1,h2,h3,h4,h5,h6⟩:=h;obtain⟨g,-,-,hfit,ht,-⟩:=h1.ok;rw[h4] at ht;exact⟨F,g.sizes,h1,h2,h3,h4,h5,h6,hfit,ht.1,ht.1.is⟩
theorem NextC.keep{E:Env}{p:Spot}{T:List Tk}{x:PC}{a:Int}{σ:Mc}{w W:World}{F:Fr}{z:List Int}(h:NextC E p x a T σ w F z)(hb:Bel w W):NextC E p x a T σ W F z:=
 { h with fr:=h.fr.keep hb,run:=RnM.keep h.run hb }
section
variable {E:Env}{p:Spot}{T:List Tk}{x:PC}{a:Int}{σ:Mc}{w:World}{F:Fr}{z:List Int}
theorem c1B(h:NextC E p x a T σ w F z)(hL:E.L≤p.lo)(hf:E.fuel≤10000):Calls Try.prog 158 #[.pointer (some ⟨E.r,0,none⟩),.pointer (some ⟨p.fb,0,none⟩),.int .i64 a] w fun y w' =>
  (σ.steps=E.fuel∧y=.returned (.bool false)∧Res E p T σ w false w')∨(σ.steps≠E.fuel∧y=.returned (.bool true)∧b8c E w' (σ.on F p.rest a T) (p.rest.length+1)∧FrM w' p.lo p.fb p.num a F.vars∧Stays E.w0.heap.size p.lo w w'):=by
 obtain⟨ho,hst⟩:=h.good.outs hf;by_cases hs:σ.steps=E.fuel
 ·have hr:=h.run;unfold b8c at hr;rw[hs] at hr;refine(c2H hr (by omega) h.fr a).mono ?_;rintro y w' ⟨rfl,h1,h2⟩;refine Or.inl ⟨hs,rfl,Res.over (d:=p.rest.length+1) (Reach.one h.good.on (Mc.do_fuel h.good.fr h.tk hs)) (Stays.told h2 (Nat.le_trans h.fr.1 (by obtain⟨-,v,hB,-⟩:=h.fr;exact Nat.le_of_lt hB.lt))) rfl ?_⟩;unfold b8c;rw[h.num,hs];exact h1
 ·refine(c3V h.run (by omega) h.fr hL hs h.good.s0 (by omega) a).mono ?_;rintro y w' ⟨rfl,h1,h2,h3⟩;refine Or.inr ⟨hs,rfl,?_,h2,h3⟩;unfold b8c Mc.on;rw[h.num];exact h1
theorem b5N{m:Mc}{d num:Int}{lo fb:Nat}{vs:List (List Int)}(hr:b8c E w m d)(ho:m.out.length≤90000)(hF:FrM w lo fb num a vs)(hn:m.num=num)(hfit:b4Z z vs){e:PE}(he:e.parts z=0){val:Value}(hv:PEV w e val) :
  Calls Try.prog 162 #[.pointer (some ⟨E.r,0,none⟩),.pointer (some ⟨fb,0,none⟩),val] w fun y w' =>
  ((e.val vs).2=0∧y=.returned (.tuple #[.int .i64 (e.val vs).1,.bool true])∧Bel w w')∨((e.val vs).2≠0∧y=.returned (.tuple #[.int .i64 0,.bool false])∧b8c E w' (m.end_ a (e.val vs).2) d∧Stays E.w0.heap.size lo w w'):=by
 by_cases h0:(e.val vs).2=0
 ·refine(b7H hr (by omega) hF hfit he hv h0).mono ?_;rintro y w' ⟨rfl,h1⟩;exact Or.inl ⟨h0,rfl,h1⟩
 ·refine(b5t hr (by omega) hF hfit he hv h0).mono ?_;rintro y w' ⟨rfl,h1,h2⟩;refine Or.inr ⟨h0,rfl,?_,Stays.told h2 (Nat.le_trans hF.1 (by obtain⟨-,v,hB,-⟩:=hF;exact Nat.le_of_lt hB.lt))⟩;unfold b8c Mc.end_;dsimp only;rw[hn];exact h1
theorem NextC.expr(h:NextC E p x a T σ w F z)(h3:x.kind≠3)(h4:x.kind≠4):x.expr.parts z=0:=by
 obtain⟨c,-,hc⟩:=h.is;exact PE.err_ok (hc.expr h3 h4)
end
def stepsIn(r:Nat)(w:World):Int:=match w.cell? ⟨r,3,none⟩ with
 | some (.int _ n)=>n
 | _=>0
theorem RnM.stepsIn{w0 w:World}{ps:List PF}{fuel:Int}{fs:FS}{L r:Nat}{inp:List Int}{steps made deep:Int}{out:List Ev}(h:RnM w0 ps fuel fs L r w inp steps made deep out):stepsIn r w=steps:=by
 obtain⟨vp,vin,vf,ve,hB⟩:=h.blk;unfold Go.Proofs.Ytgkpplbomciehaa.stepsIn;rw[hB.cell (i:=3) (v:=.int .i64 steps) rfl]
def b6A(x:PC)(a n:Int)(T:List Tk):List Tk:=if n≠0 then b1G x.thn (a+1)++.cmd x a::T else T
def c3m(E:Env)(N:Nat):Prop:=∀(p:Spot) (x:PC) (a n:Int) (T:List Tk) (σ:Mc) (w:World) (val:Value),AtS E p (b6A x a n T) σ w→x.kind=7→0≤a→a≤40→E.L≤p.lo→PCV E.w0 x val→E.fuel - σ.steps≤N →
 Calls Try.prog 164 #[.pointer (some ⟨E.r,0,none⟩),.pointer (some ⟨p.fb,0,none⟩),val,.int .i64 a,.int .i64 n] w fun y w'=>∃b,y=.returned (.bool b)∧Res E p T σ w b w'
theorem c2s(E:Env)(hp:Prog E.ps)(hfu:E.fuel≤10000)(N:Nat)(HALL:b9p E N):c3m E N:=by
 intro p x a n0 T σ0 w val hA hk h0 h40 hL hx hN;have HAL:=Lib.hid HALL;have HLL:=Lib.hid hL;have HS:Hid (E.fuel - σ0.steps≤N):=Lib.hid hN;have HB0:=Lib.hid hA.bel;obtain⟨cs,hcs,rfl⟩:=hx;have HB1:Hid (Bel w (w.alloc (.cells cs.toArray CMT))):=Lib.hid ((Bel.rfl_ w).al _);have HX1:=Lib.hid (Blk.new w CMT cs.toArray);have HA1:=Lib.hid (hA.keep HB1.out);have HST1:Hid (Stays E.w0.heap.size p.lo w (w.alloc (.cells cs.toArray CMT))):=Lib.hid (Stays.bel HB1.out HB0.out.size);obtain⟨vi,ve,va,vt,vz,hq,-,hve,-,hvt,-⟩:=b1Z hcs;obtain⟨At,ct,rfl,-⟩:=b0R hvt;have HVE:=Lib.hid hve;have HVT:=Lib.hid hvt;have HC10:Hid (cs.toArray[10]? = some (.slice At x.thn.length ct)):=Lib.hid (by rw[hq];rfl);have HC6:Hid (cs.toArray[6]? = some (.int .i64 x.expr.kind)):=Lib.hid (by rw[hq];rfl);have HC7:Hid (cs.toArray[7]? = some (.int .i64 x.expr.n)):=Lib.hid (by rw[hq];rfl);have HC8:Hid (cs.toArray[8]? = some ve):=Lib.hid (by rw[hq];rfl);have HPR:=Lib.hid hp;have HFU:=Lib.hid hfu;have HXK:=Lib.hid hk;clear HALL hA hL hN hcs hq hve hvt hp hfu hk HB0 HB1;go_enter Try.func164,Try.ntmps164;go_wp2;generalize hW1:w.alloc (.cells cs.toArray CMT)=W1 at *;clear hW1;generalize w.heap.size=Q at *;go_loopw [4] (fun v wr=>∃(n:Int) (σ:Mc),v=.int .i64 n∧Hid (Reach E.ps E.fuel σ0 σ)∧Hid (AtS E p (b6A x a n T) σ wr)∧Hid (Stays E.w0.heap.size p.lo w wr)∧Hid (Blk wr Q CMT cs.toArray)) (fun _ wr=>(E.fuel-stepsIn E.r wr).toNat)
 case atStart=>exact⟨n0,σ0,rfl,Lib.hid (Reach.rfl_ _),HA1,HST1,HX1⟩
 case round =>
  obtain⟨n,σ,rfl,HR,HA,HST,HX⟩:=hrel;obtain⟨WO,hWO⟩:∃W,W=wr:=⟨_,rfl⟩;subst hWO;clear HA1 HST1 HX1;by_cases hn:n=0
  ·subst hn;have HE:Hid (AtS E p T σ WO):=Lib.hid (by have:=HA.out;unfold b6A at this;rw[if_neg (by decide)] at this;exact this);clear HA;go_wp2;go_ret;exact⟨true,rfl,Res.on HR.out HST.out HE.out⟩
  have hdd:(n != 0)=true:=by simpa using hn
  have HA1:Hid (AtS E p (b1G x.thn (a+1)++.cmd x a::T) σ WO):=Lib.hid (by have:=HA.out;unfold b6A at this;rw[if_pos hn] at this;exact this);have hNN:E.fuel - σ.steps≤N:=by have:=HR.out.steps;have:=HS.out;omega
  have HSTE:Hid (stepsIn E.r WO=σ.steps):=Lib.hid (by obtain⟨F,-,-,-,-,-,h6⟩:=HA1.out;exact RnM.stepsIn h6);have HALL1:=Lib.hid (HAL.out p x.thn (a+1) (.cmd x a::T) σ WO _ HA1.out HLL.out HVT.out hNN (by omega) (by omega));have hwa:IntKind.i64.wrap (a+1)=a+1:=by rw[IntKind.wrap_i64];omega
  clear HA hn;go_upto_region 2 with fail;refine b1K ?_;try dsimp only[List.append]
  refine b0M (some 15) (.pointer (some ⟨E.r,0,none⟩)) (by kernel_rfl) ?_;refine b0M (some 16) (.pointer (some ⟨p.fb,0,none⟩)) (by kernel_rfl) ?_;refine b0M (some 17) (.pointer (some ⟨Q,10,none⟩)) (by kernel_rfl) ?_;refine b0M (some 18) (.slice At x.thn.length ct) (b0p (HX.out.cell (i:=10) HC10.out)) ?_;refine b0M (some 19) (.int .i64 a) (by kernel_rfl) ?_;refine b0M (some 20) (.int .i64 (a+1)) (b4k (k:=a) (l:=1) rfl (by kernel_rfl) (by kernel_rfl) (by omega) (by omega) (by omega) (by omega) rfl) ?_;refine b0s (some 21) 114 #[.pointer (some ⟨E.r,0,none⟩),.pointer (some ⟨p.fb,0,none⟩),.slice At x.thn.length ct,.int .i64 (a+1)] HALL1.out ?_;rintro y W3 ⟨b1,rfl,σ',hr1,hs1,ht1,hf1⟩;refine⟨_,rfl,?_⟩;have HX3:=Lib.hid (HX.out.kept hs1.j HX.out.lt (by decide));have HST3:=Lib.hid (HST.out.tr hs1);have HR3:=Lib.hid (HR.out.tr hr1);have HLE:=Lib.hid hr1.steps;clear HALL1 hs1 HX HA1 hr1;cases b1 with
  | false =>
   obtain⟨ho,d,hd⟩:=hf1 rfl;have HO:=Lib.hid ho;have HD:=Lib.hid hd;clear hf1 ht1 ho hd;refine b0O 8 _ [((some 22),.bool true),((some 23),.bool true),((some 24),undef),((some 25),undef),((some 26),undef),((some 27),undef),((some 28),undef),((some 29),.bool true)] ?_;refine b0o ?_;try simp only[b1C,Act.put,List.setIfInBounds_toArray,List.set_cons_zero,List.set_cons_succ]
   go_wp2;go_ret;exact⟨false,rfl,Res.over HR3.out HST3.out HO.out HD.out⟩
  | true =>
   obtain⟨F,z,hnx⟩:=(ht1 rfl).next;have HNX:=Lib.hid hnx;clear hf1 ht1 hnx;refine b0O 5 _ [((some 22),.bool false),((some 23),.bool false),((some 24),.pointer (some ⟨E.r,0,none⟩)),((some 25),.pointer (some ⟨p.fb,0,none⟩)),((some 26),.int .i64 a)] ?_;refine b0s (some 27) 158 #[.pointer (some ⟨E.r,0,none⟩),.pointer (some ⟨p.fb,0,none⟩),.int .i64 a] (c1B HNX.out HLL.out HFU.out) ?_;rintro y W4 (⟨hs4,rfl,hres⟩ | ⟨hs4,rfl,hr4,hf4,hst4⟩)
   ·refine⟨_,rfl,?_⟩;have HRES:=Lib.hid (Res.after HR3.out HST3.out hres);clear hres;refine b0O 2 _ [((some 28),.bool true),((some 29),.bool true)] ?_;refine b0o ?_;try simp only[b1C,Act.put,List.setIfInBounds_toArray,List.set_cons_zero,List.set_cons_succ]
    go_wp2;go_ret;exact⟨false,rfl,HRES.out⟩
   refine⟨_,rfl,?_⟩;have HX4:=Lib.hid (HX3.out.kept hst4.j HX3.out.lt (by decide));have HST4:=Lib.hid (HST3.out.tr hst4);have HR4:=Lib.hid hr4;have HF4:=Lib.hid hf4;have HS4:=Lib.hid hs4;have HB4:=Lib.hid (RnM.bel hr4);have HO4:Hid ((σ'.on F p.rest a T).out.length≤90000):=Lib.hid (by have:=(HNX.out.good.outs HFU.out).1;unfold Mc.on;simp;omega);clear hr4 hf4 hst4 HX3 HST3 hs4;refine b0O 2 _ [((some 28),.bool false),((some 29),.bool false)] ?_;refine b0o ?_;try simp only[b1C,Act.put,List.setIfInBounds_toArray,List.set_cons_zero,List.set_cons_succ]
   have c6:=HX4.out.cell (i:=6) HC6.out;have c7:=HX4.out.cell (i:=7) HC7.out;have c8:=HX4.out.cell (i:=8) HC8.out;go_wp2_with fail
   refine(b5N (val:=.agg #[.int .i64 x.expr.kind,.int .i64 x.expr.n,ve]) HR4.out HO4.out HF4.out HNX.out.num HNX.out.fits (HNX.out.expr (by have:=HXK.out;omega) (by have:=HXK.out;omega)) ⟨ve,rfl,HVE.out.keep HB4.out⟩).mono ?_;rintro y W5 (⟨hv5,rfl,hb5⟩ | ⟨hv5,rfl,hr5,hst5⟩)
   ·have HB5:=Lib.hid hb5;have HX5:=Lib.hid (HX4.out.keep hb5);have HST5:=Lib.hid (HST4.out.tr (Stays.bel hb5 HB4.out.size));have HDW:=Lib.hid (Mc.do_while (ps:=E.ps) HNX.out.good.fr HNX.out.tk HS4.out HXK.out hv5);have HGN:=Lib.hid (HNX.out.good.next HPR.out HDW.out (F':={ F with at_:=a,tasks:=b6A x a (x.expr.val F.vars).1 T }) rfl HNX.out.good.on);have HA5:Hid (AtS E p (b6A x a (x.expr.val F.vars).1 T) (σ'.on F p.rest a (b6A x a (x.expr.val F.vars).1 T)) W5):=Lib.hid ⟨_,HGN.out.1,HNX.out.num,HNX.out.fn,rfl,HF4.out.keep hb5,RnM.keep HR4.out hb5⟩;have HR5:=Lib.hid (HR3.out.tr HGN.out.2);have HLT:Hid (stepsIn E.r W5=σ'.steps+1):=Lib.hid (RnM.stepsIn (RnM.keep HR4.out hb5));have HNE:Hid (σ'.steps<E.fuel):=Lib.hid (by have:=HNX.out.good.s1;have:=HS4.out;omega);clear hb5 hv5 c6 c7 c8 HX4 HST4 HR4 HF4 HNX HDW HGN;generalize(x.expr.val F.vars).1=k at *;go_wp2;go_roundw
    case rel=>exact⟨k,_,rfl,HR5,HA5,HST5,HX5⟩
    case measure =>
     have e1:=HLT.out;have e2:=HSTE.out;have e3:=HNE.out;have e4:=HLE.out;rw[e1,e2];omega
   ·have HRES:Hid (Res E p T σ0 w false W5):=Lib.hid (Res.over (HR3.out.tr (Reach.one HNX.out.good.on (Mc.do_fail HNX.out.good.fr HNX.out.tk HS4.out (by have:=HXK.out;omega) (by have:=HXK.out;omega) (by have:=HXK.out;omega) hv5))) (HST4.out.tr hst5) rfl hr5);clear hr5 hst5 c6 c7 c8 hv5;go_wp2;go_ret;exact⟨false,rfl,HRES.out⟩
theorem b4c{vs:List (List Int)}:∀{l:List PE} {j:Nat} {e:PE},l[j]? = some e→(∀y∈l.take j,(y.val vs).2=0)→(e.val vs).2≠0→(b2d vs l).2=(e.val vs).2
 | [],_,_,h,_,_=>by simp at h
 | x::l,0,e,h,_,he=>by
  obtain rfl:x=e:=by simpa using h
  rw[b2d,if_pos he]
 | x::l,j+1,e,h,hz,he=>by
  rw[b2d,if_neg (by simpa using hz x (by simp))];exact b4c (by simpa using h) (fun y hy=>hz y (by simp[hy])) he
theorem b3Z{vs:List (List Int)}:∀{l:List PE},(∀y∈l,(y.val vs).2=0)→b2d vs l=(l.map fun y=>(y.val vs).1,0)
 | [],_=>rfl
 | x::l,h=>by
  rw[b2d,if_neg (by simpa using h x (by simp)),b3Z fun y hy=>h y (by simp[hy])];rfl
theorem b5n:∀(l:List Int) (vs:List (List Int)) (i:Nat) (n:Int),b2F vs (l++[n]) i=b2c (b2F vs l i) ((i+l.length:Nat):Int) 0 n
 | [],vs,i,n=>rfl
 | m::l,vs,i,n=>by
  rw[List.cons_append,b2F,b2F,b5n l,List.length_cons,show i+1+l.length=i+(l.length+1) by omega]
theorem b7w(num a:Int):∀(l:List Int) (i:Nat) (n:Int),b8Z num a (l++[n]) i=b8Z num a l i++[⟨2,num,a,((i+l.length:Nat):Int),0,n⟩]
 | [],i,n=>rfl
 | m::l,i,n=>by
  rw[List.cons_append,b8Z,b8Z,b7w num a l,List.length_cons,show i+1+l.length=i+(l.length+1) by omega,List.cons_append]
theorem b0z{α:Type}{l:List α}{j:Nat}{x:α}(h:l[j]? = some x):l.take (j+1)=l.take j++[x]:=by
 rw[List.take_add_one,h];rfl
section
variable {ps:List PF}{fuel:Int}{σ:Mc}{F:Fr}{rest:List Fr}{x:PC}{a:Int}{T:List Tk}
theorem Mc.do_call(hfr:σ.frames=F::rest)(ht:F.tasks=.cmd x a::T)(hs:σ.steps≠fuel)(hk:x.kind=3):σ.do_ ps fuel=Mc.call ps (σ.on F rest a F.tasks) x { F with at_:=a } rest:=by
 rw[Mc.do_cmd hfr ht,if_neg hs,if_pos hk];rfl
theorem Mc.call_fail(hv:(b2d F.vars x.args).2≠0):Mc.call ps (σ.on F rest a F.tasks) x { F with at_:=a } rest=(σ.on F rest a F.tasks).end_ a (b2d F.vars x.args).2:=by
 unfold Mc.call;rw[if_pos hv]
theorem Mc.call_deep(hv:(b2d F.vars x.args).2=0)(h5:rest.length=5):Mc.call ps (σ.on F rest a F.tasks) x { F with at_:=a } rest=(σ.on F rest a F.tasks).end_ a 4:=by
 unfold Mc.call;rw[if_neg (by simpa using hv),if_pos h5]
def Mc.inn(ps:List PF)(σ:Mc)(F:Fr)(rest:List Fr)(x:PC)(a:Int)(l:List Int):Mc:=
 { σ.on F rest a F.tasks with made:=σ.made+1,frames:=⟨σ.made,x.fn,-1,b2F (b0c (ps.getD x.fn.toNat noF).sizes) l 0,b1G (ps.getD x.fn.toNat noF).cmds (b0l ps x.fn.toNat)++[.back]⟩::{ F with at_:=a }::rest,out:=σ.out++[⟨1,F.num,a,0,0,0⟩]++[⟨5,F.num,a,x.fn,0,σ.made⟩]++b8Z σ.made a l 0 }
theorem Mc.call_in(hv:(b2d F.vars x.args).2=0)(h5:rest.length≠5):Mc.call ps (σ.on F rest a F.tasks) x { F with at_:=a } rest=Mc.inn ps σ F rest x a (b2d F.vars x.args).1:=by
 unfold Mc.call;rw[if_neg (by simpa using hv),if_neg h5,Mc.writes_eq _ _ _ _ _ _ rfl];rfl
theorem Mc.back_on{c:Fr}{a2:Int}(hfr:σ.frames=F::c::rest)(ht:F.tasks=[.back])(hc:c.tasks=.cmd x a2::T)(hv:((ps.getD F.fn.toNat noF).result.val F.vars).2=0) :
  σ.do_ ps fuel={ σ with frames:={ c with tasks:=T,vars:=b2c c.vars x.var 0 ((ps.getD F.fn.toNat noF).result.val F.vars).1 }::rest,out:=σ.out++[⟨6,F.num,c.at_,0,0,((ps.getD F.fn.toNat noF).result.val F.vars).1⟩]++[⟨2,c.num,c.at_,x.var,0,((ps.getD F.fn.toNat noF).result.val F.vars).1⟩] }:=by
 rw[Mc.do_back hfr ht,Mc.back_one hc,if_neg (by simpa using hv)];unfold Mc.write Mc.top Mc.tell Mc.num;rw[hfr]
theorem Mc.back_fail{c:Fr}{a2:Int}(hfr:σ.frames=F::c::rest)(ht:F.tasks=[.back])(hc:c.tasks=.cmd x a2::T)(hv:((ps.getD F.fn.toNat noF).result.val F.vars).2≠0) :
  σ.do_ ps fuel=σ.end_ F.at_ ((ps.getD F.fn.toNat noF).result.val F.vars).2:=by
 rw[Mc.do_back hfr ht,Mc.back_one hc,if_pos hv]
end
theorem own_int{w:World}{base n:Nat}{v:Value}{xs:List Int}(h:w.ownsRow base INT 1 v n (xs.map (Value.int .i64)))(hn:n=xs.length){j:Nat}{u:Int}(hu:xs[j]? = some u):∃b c,v=.slice (some ⟨b,0,none⟩) n c∧v.ownBlock=some b∧∃cur,Blk w b INT cur∧cur[j]? = some (.int .i64 u):=by
 have hj:=(List.getElem?_eq_some_iff.1 hu).1;rcases h.2 with⟨_,h0⟩ | ⟨b,cap,cur,rfl,_,hh,_,_,_,ht⟩
 ·omega
 ·refine⟨b,cap,rfl,rfl,cur,hh,?_⟩;have hx:(xs.map (Value.int .i64))[j]? = some (.int .i64 u):=by rw[List.getElem?_map,hu];rfl
  rw[←ht,List.getElem?_take] at hx;split at hx
  ·simpa using hx
  ·cases hx
end Go.Proofs.Ytgkpplbomciehaa
