/- Is there too much in a tree, by the program; Check: walked. Each lemma states its own conditions. -/
import Derived.Test.YtmfjlcpjemccmaaGreatDoorSbk35
import Derived.Test.YtmfjlcpjemccmaaGreatDoorSbk27
namespace Go.Proofs.YtmfjlcpjemccmaaGreatDoor
set_option maxRecDepth 20000
set_option maxHeartbeats 8000000
open Go.RowKit
abbrev PT:TypeId:=144
theorem c7p{o:Oper}{ρ:Operand→Value}{W:World}{x:Operand}{b f:Nat}{v:Value}(ho:o.op=.load 144 x)(hx:ρ x=.pointer (some ⟨b,f,none⟩))(hc:W.cell? ⟨b,f,none⟩=some v):(execOp ρ o).run Tryz.prog W=.ok (.value v) W:=by
 simp[execOp,ho,hx,hc,go_sem]
def c5l(x:TF)(n:Int)(R:Nat)(w:World)(r:Ending)(w':World):Prop:=
 r=.returned (.bool (x.big || MB x.cmds 1 n))∧w.grownBy w' (some R)∧∃m:Int,Blk w' R CT #[.int .i64 m]∧((x.big || MB x.cmds 1 n)=false→m=n+b1S x.cmds)
theorem b6g{x:TF}{n m:Int}{R:Nat}{w w':World}(h:true=(x.big || MB x.cmds 1 n))(hg:w.grownBy w' (some R))(hc:Blk w' R CT #[.int .i64 m]):c5l x n R w (.returned (.bool true)) w':=
 ⟨by rw[←h],hg,m,hc,fun e=>by rw[←h] at e;cases e⟩
theorem c5I(w0:World)(R PV:Nat)(hR:w0.heap.size≤R)(_hPV:PV≠R)(x:TF)(cs:List Value)(n:Int)(w:World)(h:TFR w0 x cs)(hb:Bel w0 w)(hc:Blk w R CT #[.int .i64 n])(hp:Blk w PV PT #[.pointer (some ⟨R,0,none⟩)])(hn0:0≤n)(hn1:n≤40) :
  Calls Tryz.prog 97 #[.agg cs.toArray,.pointer (some ⟨PV,0,none⟩)] w fun r w'=>c5l x n R w r w':=by
 obtain⟨vp,vv,vc,vr,rfl,hn,hrn,hsp,hsv,hsc,hsr⟩:=h;have HR1:Hid (∀W,Bel w0 W→Calls Tryz.prog 98 #[.agg #[.int .i64 x.result.kind,.int .i64 x.result.at_,.int .i64 x.result.n,.string x.result.name,vr]] W fun r w'=>r=.returned (.bool x.result.great)∧Bel W w'):=Hi_ fun W hb=>b5X x.result _ W ⟨_,rfl,hrn,hsr.keep hb⟩;have HM1:=Hi_ (fun W (hb:Bel w0 W) (hc:Blk W R CT #[.int .i64 n])=>c5N w0 R hR x.cmds 1 n vc W hsc hb hc (by decide) (by decide) hn0 hn1);have HBL:Hid (∀W,w.grownBy W (some R)→Bel w0 W):=Hi_ fun W hg=>b0U hb hR hg;have HTE:Hid ((x.big || MB x.cmds 1 n)=(decide (3<x.params.length) || (decide (6<x.vars.length) || (x.result.great || MB x.cmds 1 n)))):=Hi_ (by unfold TF.big;simp only[Bool.or_assoc]);obtain⟨Ap,cp,rfl,hp1,hp2,-⟩:=hsp;obtain⟨Av,cv,rfl,hv1,hv2,-⟩:=hsv;obtain⟨Ac,cc,rfl,-⟩:=hsc;obtain⟨Ar,cr,rfl,-⟩:=hsr;have hpl:x.params.length≤9223372036854775807:=by have:=hp2.1;simp only[maxLen] at this;omega
 have hvl:x.vars.length≤9223372036854775807:=by have:=hv2.1;simp only[maxLen] at this;omega
 clear hn hrn hp1 hp2 hv1 hv2;generalize x.result.kind=rk at *;generalize x.result.at_=ra at *;generalize x.result.n=rn at *;generalize x.result.name=rs at *;generalize x.at_=xa at *;generalize x.name=xn at *;have HX:Hid (w.grownBy (w.alloc (.cells #[.int .i64 xa,.string xn,.slice Ap x.params.length cp,.slice Av x.vars.length cv,.slice Ac x.cmds.length cc,.int .i64 rk,.int .i64 ra,.int .i64 rn,.string rs,.slice Ar x.result.args.length cr] 51)) (some R)):=Hi_ (((Bel.rfl_ w).al (.cells #[.int .i64 xa,.string xn,.slice Ap x.params.length cp,.slice Av x.vars.length cv,.slice Ac x.cmds.length cc,.int .i64 rk,.int .i64 ra,.int .i64 rn,.string rs,.slice Ar x.result.args.length cr] 51)).grown _);have HK:=Hi_ (Blk.new w 51 #[.int .i64 xa,.string xn,.slice Ap x.params.length cp,.slice Av x.vars.length cv,.slice Ac x.cmds.length cc,.int .i64 rk,.int .i64 ra,.int .i64 rn,.string rs,.slice Ar x.result.args.length cr]);have HC:=Hi_ (hc.keep ((Bel.rfl_ w).al (.cells #[.int .i64 xa,.string xn,.slice Ap x.params.length cp,.slice Av x.vars.length cv,.slice Ac x.cmds.length cc,.int .i64 rk,.int .i64 ra,.int .i64 rn,.string rs,.slice Ar x.result.args.length cr] 51)));have HP:=Hi_ (hp.keep ((Bel.rfl_ w).al (.cells #[.int .i64 xa,.string xn,.slice Ap x.params.length cp,.slice Av x.vars.length cv,.slice Ac x.cmds.length cc,.int .i64 rk,.int .i64 ra,.int .i64 rn,.string rs,.slice Ar x.result.args.length cr] 51)));clear hc hp hb;go_enter Tryz.func97,Tryz.ntmps97;go_upto_region 1 with fail;generalize w.alloc (.cells #[.int .i64 xa,.string xn,.slice Ap x.params.length cp,.slice Av x.vars.length cv,.slice Ac x.cmds.length cc,.int .i64 rk,.int .i64 ra,.int .i64 rn,.string rs,.slice Ar x.result.args.length cr] 51)=W0 at *;generalize w.heap.size=K at *;refine b0E ?_;try dsimp only[List.append]
 refine b0P (some 4) (.pointer (some ⟨K,2,none⟩)) ?_;refine b0R (some 5) _ (b7w (HK.out.cell (i:=2) (v:=.slice Ap x.params.length cp) rfl)) ?_;refine b0P (some 6) (.int .i64 x.params.length) ?_;by_cases hzP:3<x.params.length
 ·have dzP:decide ((3:Int)<x.params.length)=true:=decide_eq_true (by omega);have HR:true=(x.big || MB x.cmds 1 n):=by rw[HTE.out,decide_eq_true hzP];simp
  replace HR:=Hi_ HR;refine b0R (some 7) (.bool true) (b0f rfl (by kernel_rfl) (by kernel_rfl) dzP) ?_;refine b0V 17 8 [.bool true,uD,uD,uD,uD,.bool true,.bool true,uD,uD,uD,.bool true,.bool true,uD,uD,uD,uD,.bool true] ?_;refine b0P (some 3) (.bool true) ?_;refine b0C ?_;try simp only[sP,Act.put,lA,lB,lC]
  go_wp2;go_ret;exact b6g HR.out HX.out HC.out
 have dzP:decide ((3:Int)<x.params.length)=false:=decide_eq_false (by omega);refine b0R (some 7) (.bool false) (b0f rfl (by kernel_rfl) (by kernel_rfl) dzP) ?_;refine b0V 2 8 [.bool false,.pointer (some ⟨K,3,none⟩)] ?_;refine b0R (some 10) _ (b9g (HK.out.cell (i:=3) (v:=.slice Av x.vars.length cv) rfl)) ?_;refine b0P (some 11) (.int .i64 x.vars.length) ?_;by_cases hzV:6<x.vars.length
 ·have dzV:decide ((6:Int)<x.vars.length)=true:=decide_eq_true (by omega);have HR:true=(x.big || MB x.cmds 1 n):=by rw[HTE.out,decide_eq_true hzV];simp
  replace HR:=Hi_ HR;refine b0R (some 12) (.bool true) (b0f rfl (by kernel_rfl) (by kernel_rfl) dzV) ?_;refine b0V 12 13 [.bool true,.bool true,uD,uD,uD,.bool true,.bool true,uD,uD,uD,uD,.bool true] ?_;refine b0P (some 3) (.bool true) ?_;refine b0C ?_;try simp only[sP,Act.put,lA,lB,lC]
  go_wp2;go_ret;exact b6g HR.out HX.out HC.out
 have dzV:decide ((6:Int)<x.vars.length)=false:=decide_eq_false (by omega);refine b0R (some 12) (.bool false) (b0f rfl (by kernel_rfl) (by kernel_rfl) dzV) ?_;refine b0V 3 13 [.bool false,.bool false,.pointer (some ⟨K,5,none⟩)] ?_;refine b0R (some 16) _ (b0B 49 (.tmp 15) rfl b2R K 5 (by kernel_rfl) [.int .i64 rk,.int .i64 ra,.int .i64 rn,.string rs,.slice Ar x.result.args.length cr] (b0b HK.out 5 rfl) rfl (by kernel_rfl)) ?_;refine b0W (some 17) 98 #[.agg #[.int .i64 rk,.int .i64 ra,.int .i64 rn,.string rs,.slice Ar x.result.args.length cr]] (HR1.out _ (HBL.out _ HX.out)) ?_;rintro r W3 ⟨rfl,hb⟩;replace HX:=Hi_ (HX.out.trans (hb.grown _));replace HK:=Hi_ (HK.out.keep hb);replace HC:=Hi_ (HC.out.keep hb);replace HP:=Hi_ (HP.out.keep hb);clear hb;refine⟨_,rfl,?_⟩;cases hgr:x.result.great with
 | true =>
  have HR:Hid (true=(x.big || MB x.cmds 1 n)):=Hi_ (by rw[HTE.out,hgr];simp);refine b0V 7 18 [.bool true,.bool true,uD,uD,uD,uD,.bool true] ?_;refine b0P (some 3) (.bool true) ?_;refine b0C ?_;try simp only[sP,Act.put,lA,lB,lC]
  go_wp2;go_ret;exact b6g HR.out HX.out HC.out
 | false =>
  refine b0V 2 18 [.bool false,.bool false] ?_;refine b0R (some 20) _ (c7p rfl (by kernel_rfl) (HP.out.cell (i:=0) (v:=.pointer (some ⟨R,0,none⟩)) rfl)) ?_;refine b0P (some 21) (.pointer (some ⟨K,4,none⟩)) ?_;refine b0R (some 22) _ (b1B (HK.out.cell (i:=4) (v:=.slice Ac x.cmds.length cc) rfl)) ?_;refine b0W (some 23) 99 #[.pointer (some ⟨R,0,none⟩),.slice Ac x.cmds.length cc,.int .i64 1] (HM1.out _ (HBL.out _ HX.out) HC.out) ?_;rintro r W3 ⟨rfl,hg,m,hm1,hm2⟩;replace HX:=Hi_ (HX.out.trans hg);replace HC:=Hi_ hm1;clear hg hm1;refine⟨_,rfl,?_⟩;cases hM:MB x.cmds 1 n with
  | true =>
   have HR:Hid (true=(x.big || MB x.cmds 1 n)):=Hi_ (by rw[HTE.out,hM];simp);refine b0P (some 24) (.bool true) ?_;refine b0P (some 3) (.bool true) ?_;refine b0C ?_;try simp only[sP,Act.put,lA,lB,lC]
   go_wp2;go_ret;exact b6g HR.out HX.out HC.out
  | false =>
   have HM:Hid (m=n+b1S x.cmds):=Hi_ (hm2 hM);have hTT:(x.big || MB x.cmds 1 n)=false:=by rw[HTE.out,decide_eq_false hzP,decide_eq_false hzV,hgr,hM];rfl
   clear hM hm2;refine b0P (some 24) (.bool false) ?_;refine b0P (some 3) (.bool false) ?_;refine b0C ?_;try simp only[sP,Act.put,lA,lB,lC]
   go_wp2;go_ret;exact⟨by rw[hTT];rfl,HX.out,m,HC.out,fun _=>HM.out⟩
def FB:List TF→Int→Bool
 | [],_=>false
 | f::l,n=>(f.big || MB f.cmds 1 n) || FB l (n+b1S f.cmds)
theorem c5x{l:List TF}{k:Nat}{x:TF}(hx:l[k]? = some x)(n:Int):FB (l.drop k) n=((x.big || MB x.cmds 1 n) || FB (l.drop (k+1)) (n+b1S x.cmds)):=by
 obtain⟨hl,rfl⟩:=List.getElem?_eq_some_iff.1 hx;rw[List.drop_eq_getElem_cons hl,FB]
theorem c7M{l:List TF}{k:Nat}(h:l.length≤k)(n:Int):FB (l.drop k) n=false:=by rw[List.drop_eq_nil_of_le h,FB]
theorem c7N:∀(l:List TF) (n:Nat),n≤40→FB l n=(l.any TF.big || !l.all (fun f=>b1H f.cmds 1) || decide (40<n+(l.map fun f=>b1S f.cmds).sum))
 | [],n,h=>by
  rw[FB];simp;omega
 | f::l,n,h=>by
  rw[FB,List.any_cons,List.all_cons,List.map_cons,List.sum_cons];cases hb:f.big with
  | true=>simp
  | false =>
   cases hf:b1H f.cmds 1 with
   | false =>
    unfold MB;rw[hf];simp
   | true =>
    unfold MB;rw[hf,Bool.true_and];by_cases h40:n+b1S f.cmds≤40
    ·have ih:=c7N l (n+b1S f.cmds) h40;rw[decide_eq_true (show(n:Int)+b1S f.cmds≤40 by omega),show(n:Int)+b1S f.cmds=((n+b1S f.cmds:Nat):Int) by omega,ih,Nat.add_assoc];simp
    ·rw[decide_eq_false (show ¬(n:Int)+b1S f.cmds≤40 by omega),show decide (40<n+(b1S f.cmds+(l.map fun f=>b1S f.cmds).sum))=true from decide_eq_true (by omega)];simp
theorem c1j(w0:World)(R PV:Nat)(hR:w0.heap.size≤R)(hPV:PV≠R)(l:List TF)(v:Value)(w:World)(h:Sl tfR w0 v l)(hb:Bel w0 w)(hc:Blk w R CT #[.int .i64 0])(hp:Blk w PV PT #[.pointer (some ⟨R,0,none⟩)]) :
  Calls Tryz.prog 147 #[v,.func (.func 97) #[] #[.pointer (some ⟨PV,0,none⟩)]] w fun r w'=>∃k:Int,r=.returned (.int .i64 k)∧decide (0≤k)=FB l 0∧w.grownBy w' (some R):=by
 have HSL:=Hi_ h;have HL:=Hi_ (fun x cs n W h hb hc hp h0 h1=>c5I w0 R PV hR hPV x cs n W h hb hc hp h0 h1);have HT:Hid (FB (l.drop 0) 0=FB l 0):=Hi_ rfl;generalize FB l 0=T at *;obtain⟨A,c,rfl,hcl,hm,-⟩:=h;have hll:l.length≤9223372036854775807:=by have:=hm.1;simp only[maxLen] at this;omega
 have HRF:Hid (w.grownBy w (some R)):=Hi_ ((Bel.rfl_ w).grown _);have HB0:=Hi_ hb;have HC0:=Hi_ hc;have HP0:=Hi_ hp;have HRR:=Hi_ hR;clear hcl hm hb hc hp hR;go_enter Tryz.func147,Tryz.ntmps147;go_wp2;go_loopw [8] (fun i wr=>∃(j:Nat) (n:Int),i=.int .i64 j∧j≤l.length∧0≤n∧n≤40∧Hid (FB (l.drop j) n=T)∧Hid (w.grownBy wr (some R))∧Hid (Blk wr R CT #[.int .i64 n])∧Hid (Blk wr PV PT #[.pointer (some ⟨R,0,none⟩)])) (fun i _=>l.length-(intOf i).toNat)
 case atStart=>exact⟨0,0,rfl,Nat.zero_le _,by decide,by decide,HT,HRF,HC0,HP0⟩
 case round =>
  obtain⟨j,n,rfl,hj,hn0,hn1,HS,HG,HC,HP⟩:=hrel;obtain⟨WO,hWO⟩:∃W,W=wr:=⟨_,rfl⟩;subst hWO;have HB:=Hi_ (b0U HB0.out HRR.out HG.out);clear HT HRF HC0 HP0;by_cases hlt:j<l.length
  rotate_left
  ·have hdd:decide ((j:Int)<l.length)=false:=decide_eq_false (by omega);have HR:Hid (false=T):=Hi_ (by rw[←HS.out,c7M (by omega)]);go_wp2;go_ret;exact⟨-1,rfl,by rw[←HR.out];rfl,HG.out⟩
  have hdd:decide ((j:Int)<l.length)=true:=decide_eq_true (by omega);obtain⟨x,hx⟩:∃x,l[j]? = some x:=⟨_,List.getElem?_eq_getElem hlt⟩;obtain⟨b,o,cs,rfl,hcs,hca⟩:=c7H HSL.out hx;have HIX:=Hi_ (HL.out x cs n WO hcs HB.out HC.out HP.out hn0 hn1);have HD:Hid (((x.big || MB x.cmds 1 n) || FB (l.drop (j+1)) (n+b1S x.cmds))=T):=Hi_ (by rw[←c5x hx];exact HS.out);have HMB:=Hi_ (fun(h:(x.big || MB x.cmds 1 n)=false)=>c5z (l:=x.cmds) (d:=1) (n:=n) (by rw[Bool.or_eq_false_iff] at h;exact h.2));have i0:(0:Int)≤j:=by omega
  have i1:(j:Int)<l.length:=by omega
  have HLE:=Hi_ (tfR.len hcs);have HCA:=Hi_ (hca.keep HB.out);clear hcs hca hx HS HL;go_upto_region 4 with fail;refine b0E ?_;try dsimp only[List.append]
  refine b0P (some 11) (.func (.func 97) #[] #[.pointer (some ⟨PV,0,none⟩)]) ?_;refine b0P (some 12) (.slice (some ⟨b,o,none⟩) l.length c) ?_;refine b0P (some 13) (.int .i64 j) ?_;refine b0R (some 14) (.pointer (some ⟨b,o+j*10,none⟩)) (by go_simp) ?_;refine b0R (some 15) _ (b0B 51 (.tmp 14) rfl b5Q b (o+j*10) (by kernel_rfl) cs HCA.out HLE.out (by kernel_rfl)) ?_;refine b0W (some 16) 97 #[.agg cs.toArray,.pointer (some ⟨PV,0,none⟩)] HIX.out ?_;rintro r W3 ⟨rfl,hg,m,hm1,hm2⟩;have HG2:=Hi_ (HG.out.trans hg);have HP2:=Hi_ (HP.out.grown hg (by simp;omega));have HC2:=Hi_ hm1;clear hg hm1 HIX HG HP HC;refine⟨_,rfl,?_⟩;generalize hsm:(x.big || MB x.cmds 1 n)=sm at *;refine b0C ?_;try simp only[Act.put,lA,lB,lC]
  cases sm with
  | false =>
   obtain rfl:=hm2 rfl;have hle:=HMB.out rfl;have HD2:Hid (FB (l.drop (j+1)) (n+b1S x.cmds)=T):=Hi_ (by rw[←HD.out,Bool.false_or]);clear hm2 HMB hsm;go_wp2;go_roundw
   case rel=>exact⟨j+1,_,by go_num,by omega,by omega,hle,HD2,HG2,HC2,HP2⟩
   case measure=>simp[intOf];omega
  | true =>
   have HD2:Hid (true=T):=Hi_ (by rw[←HD.out,Bool.true_or]);clear hm2 HMB hsm;go_wp2;go_ret;exact⟨j,rfl,by rw[←HD2.out];exact decide_eq_true i0,HG2.out⟩
theorem b8Z(w0:World)(R PV:Nat)(hR:w0.heap.size≤R)(hPV:PV≠R)(l:List TF)(v:Value)(w:World)(h:Sl tfR w0 v l)(hb:Bel w0 w)(hc:Blk w R CT #[.int .i64 0])(hp:Blk w PV PT #[.pointer (some ⟨R,0,none⟩)]) :
  Calls Tryz.prog 96 #[v,.func (.func 97) #[] #[.pointer (some ⟨PV,0,none⟩)]] w fun r w'=>r=.returned (.bool (FB l 0))∧w.grownBy w' (some R):=by
 have HC:=Hi_ (c1j w0 R PV hR hPV l v w h hb hc hp);obtain⟨A,c,rfl,-⟩:=h;generalize FB l 0=T at *;clear hb hc hp;go_enter Tryz.func96,Tryz.ntmps96;go_wp2_with fail
 refine HC.out.mono ?_;rintro r w1 ⟨k,rfl,hk,hg⟩;have hk2:decide (0≤k)=T:=hk;have HG:=Hi_ hg;clear hg HC hk;cases T with
 | true =>
  go_wp2;go_ret;exact⟨rfl,HG.out⟩
 | false =>
  go_wp2;go_ret;exact⟨rfl,HG.out⟩
theorem c3o:∀{l:List TF} {k:Nat} {x:TF} (_:l[k]? = some x),b4R (l.drop k)=(x.ok (decide (k+1=l.length)) && b4R (l.drop (k+1)))
 | l,k,x,hx=>by
  obtain⟨hl,rfl⟩:=List.getElem?_eq_some_iff.1 hx;rw[List.drop_eq_getElem_cons hl];by_cases h:k+1=l.length
  ·rw[List.drop_eq_nil_of_le (by omega),decide_eq_true h,b4R,b4R,Bool.and_true]
  ·rw[decide_eq_false h,List.drop_eq_getElem_cons (show k+1<l.length by omega),b4R]
theorem c1q(l:List TF)(v:Value)(w:World)(h:Sl tfR w v l):Calls Tryz.prog 59 #[.agg #[v]] w fun r w'=>r=.returned (.bool (many l))∧Bel w w':=by
 have HCF:=Hi_ (fun R PV (hR:w.heap.size≤R) (hPV:PV≠R) W hb hc hp=>b8Z w R PV hR hPV l v W h hb hc hp);obtain⟨A,c,rfl,hcl,hm,-⟩:=h;have hll:l.length≤9223372036854775807:=by have:=hm.1;simp only[maxLen] at this;omega
 clear hcl hm;by_cases h6:6<l.length
 ·have d6:decide ((6:Int)<l.length)=true:=decide_eq_true (by omega);have HR:Hid (true=many l):=Hi_ (by unfold many;rw[decide_eq_true h6];rfl);generalize many l=T at *;clear HCF;go_enter Tryz.func59,Tryz.ntmps59;go_wp2;go_ret;exact⟨by rw[←HR.out];rfl,(Bel.rfl_ w).al _⟩
 have d6:decide ((6:Int)<l.length)=false:=decide_eq_false (by omega);have d6':¬6<l.length:=h6;have HR:Hid (FB l 0=many l):=Hi_ (by unfold many c1s;rw[decide_eq_false h6,Bool.false_or];exact(c7N l 0 (by decide)).trans (by simp));generalize FB l 0=B at *;generalize many l=T at *;go_enter Tryz.func59,Tryz.ntmps59;go_upto_region 3 with fail;go_cut [3] from 8 to 9 (fun u wx=>∃R PV:Nat,u=.pointer (some ⟨PV,0,none⟩)∧w.heap.size<R∧PV≠R∧Hid (Bel w wx)∧Hid (Blk wx R CT #[.int .i64 0])∧Hid (Blk wx PV PT #[.pointer (some ⟨R,0,none⟩)])∧Hid (Blk wx w.heap.size 24 #[.slice A l.length c]))
 case first =>
  go_wp2;go_meet
  have k1:=Blk.new w 24 #[.slice A l.length c];have k2:=Blk.new (w.alloc (.cells #[.slice A l.length c] 24)) CT #[.int .i64 0];rw[b3M] at k2;have k3:=Blk.new ((w.alloc (.cells #[.slice A l.length c] 24)).alloc (.cells #[.int .i64 0] CT)) PT #[.pointer (some ⟨w.heap.size+1,0,none⟩)];rw[b3M,b3M] at k3;exact⟨_,_,rfl,by omega,by omega,Hi_ ((((Bel.rfl_ w).al _).al _).al _),Hi_ (k2.keep ((Bel.rfl_ _).al _)),Hi_ k3,Hi_ ((k1.keep ((Bel.rfl_ _).al _)).keep ((Bel.rfl_ _).al _))⟩
 case rest =>
  obtain⟨R,PV,rfl,hR,hPV,HB,HC,HP,HQ⟩:=hcut;have c0:=HQ.out.cell (i:=0) (v:=.slice A l.length c) rfl;go_wp2_with fail
  refine(HCF.out R PV (by omega) hPV _ HB.out HC.out HP.out).mono ?_;rintro r w1 ⟨rfl,hg⟩;have HB2:=Hi_ (b0U HB.out (by omega) hg);clear hg c0;go_wp2;go_ret;exact⟨by rw[←HR.out];rfl,HB2.out⟩
theorem b6u(l:List TF)(v:Value)(w:World)(h:Sl tfR w v l):Calls Tryz.prog 22 #[.agg #[v]] w fun r w'=>r=.returned (.int .i64 (b4Q l))∧Bel w w':=by
 have HSL:=Hi_ h;have HLM:=Hi_ (fun W (hb:Bel w W)=>c1q l v W (h.keep hb));have HOK:=Hi_ (fun(k:Nat) (x:TF) (hx:l[k]? = some x)=>c3o hx);obtain⟨A,c,rfl,hcl,hm,-⟩:=h;have hll:l.length≤9223372036854775807:=by have:=hm.1;simp only[maxLen] at this;omega
 have HQ:=Hi_ (Blk.new w 24 #[.slice A l.length c]);have HB0:=Hi_ ((Bel.rfl_ w).al (.cells #[.slice A l.length c] 24));have HE:Hid (b4Q l=if many l then 2 else if l.length=0 then 1 else if b4R l then 0 else 1):=Hi_ rfl;clear hcl hm;generalize b4Q l=T at *;go_enter Tryz.func22,Tryz.ntmps22;go_upto_region 1 with fail;generalize w.alloc (.cells #[.slice A l.length c] 24)=W0 at *;generalize w.heap.size=P at *;have c0:=HQ.out.cell (i:=0) (v:=.slice A l.length c) rfl;go_wp2_with fail
 refine(HLM.out _ HB0.out).mono ?_;rintro r w1 ⟨rfl,hb⟩;replace HB0:=Hi_ (HB0.out.tr hb);replace HQ:=Hi_ (HQ.out.keep hb);clear hb c0;cases hmn:many l with
 | true =>
  have HR:Hid (2=T):=Hi_ (by rw[HE.out,hmn];rfl);clear hmn;go_wp2;go_ret;exact⟨by rw[←HR.out];rfl,HB0.out⟩
 | false =>
  have c0:=HQ.out.cell (i:=0) (v:=.slice A l.length c) rfl;rw[hmn,if_neg (by decide)] at HE;clear hmn;by_cases h0:l.length=0
  ·have HR:Hid (1=T):=Hi_ (by rw[HE.out,if_pos h0]);have d0:((l.length:Int)==0)=true:=by simpa using h0
   clear h0;go_wp2;go_ret;exact⟨by rw[←HR.out];rfl,HB0.out⟩
  have d0:((l.length:Int)==0)=false:=by simpa using h0
  rw[if_neg h0] at HE;have HT:Hid ((if b4R (l.drop 0) then 0 else 1)=T):=Hi_ HE.out.symm;clear HE h0;go_wp2;clear c0 d0;go_loopw [14] (fun i wr=>∃j:Nat,i=.int .i64 j∧j≤l.length∧Hid ((if b4R (l.drop j) then 0 else 1)=T)∧Hid (Bel w wr)∧Hid (Blk wr P 24 #[.slice A l.length c])) (fun i _=>l.length-(intOf i).toNat)
  case atStart=>exact⟨0,rfl,Nat.zero_le _,HT,HB0,HQ⟩
  case round =>
   obtain⟨j,rfl,hj,HS,HB,HQ⟩:=hrel;obtain⟨WO,hWO⟩:∃W,W=wr:=⟨_,rfl⟩;subst hWO;clear HT HB0;have c0:=HQ.out.cell (i:=0) (v:=.slice A l.length c) rfl;by_cases hlt:j<l.length
   rotate_left
   ·have hdd:decide ((j:Int)<l.length)=false:=decide_eq_false (by omega);have HR:Hid (0=T):=Hi_ (by rw[←HS.out,List.drop_eq_nil_of_le (by omega)];rfl);go_wp2;go_ret;exact⟨by rw[←HR.out];rfl,HB.out⟩
   have hdd:decide ((j:Int)<l.length)=true:=decide_eq_true (by omega);obtain⟨x,hx⟩:∃x,l[j]? = some x:=⟨_,List.getElem?_eq_getElem hlt⟩;obtain⟨b,o,cs,rfl,hcs,hca⟩:=c7H (HSL.out.keep HB.out) hx;obtain⟨m,hm⟩:∃m,decide (j+1=l.length)=m:=⟨_,rfl⟩;have HD:Hid ((if(x.ok m && b4R (l.drop (j+1))) then 0 else 1)=T):=Hi_ (by rw[←hm,←HOK.out j x hx];exact HS.out)
   have hmd:((j:Int)==l.length-1)=m:=by
    rw[←hm,Bool.eq_iff_iff];simp;omega
   have HF:=Hi_ (fun W (hb:Bel WO W)=>c5A x m cs W (tfR.keep hb hcs));have i0:(0:Int)≤j:=by omega
   have i1:(j:Int)<l.length:=by omega
   have HL:=Hi_ (tfR.len hcs);have HON:=Hi_ (b4O hcs);have HCA:=Hi_ hca;clear hcs hca hx HS hm;generalize x.ok m=bm at *;go_upto_region 7 with fail;refine b0E ?_;try dsimp only[List.append]
   refine b0P (some 16) (.int .i64 j) ?_;refine b0R (some 17) (.pointer (some ⟨b,o+j*10,none⟩)) (by go_simp) ?_;refine b0R (some 18) _ (b0B 51 (.tmp 17) rfl b5Q b (o+j*10) (by kernel_rfl) cs HCA.out HL.out (by kernel_rfl)) ?_;refine b2X (some 4) rfl 51 rfl rfl b5Q fun z hz=>?_;refine b0P (some 3) (.int .i64 j) ?_;refine b2Y none rfl 51 (.tmp 4) (.tmp 18) rfl rfl b5Q WO.heap.size cs (by kernel_rfl) (by kernel_rfl) (Blk.new WO 51 z) hz HL.out HON.out ?_;have HX:Hid (Bel WO ((WO.alloc (.cells z 51)).setRow WO.heap.size cs.toArray)):=Hi_ (((Bel.rfl_ WO).al _).row (Nat.le_refl _) _);have HK:=Hi_ ((Blk.new WO 51 z).row_same cs.toArray);have HQ2:=Hi_ (HQ.out.keep HX.out);clear hz c0;generalize(WO.alloc (.cells z 51)).setRow WO.heap.size cs.toArray=W1 at *;generalize WO.heap.size=K at *;refine b0C ?_;try simp only[Act.put,lA,lB,lC]
   go_upto_region 8 with fail;refine b0E ?_;try dsimp only[List.append]
   refine b0R (some 19) _ (b0B 51 (.tmp 4) rfl b5Q K 0 (by kernel_rfl) cs (b3V HK.out) HL.out (by kernel_rfl)) ?_;refine b0P (some 20) (.int .i64 j) ?_;refine b0P (some 21) (.pointer (some ⟨P,0,none⟩)) ?_;refine b0R (some 22) (.slice (some ⟨b,o,none⟩) l.length c) (b6N (HQ2.out.cell (i:=0) rfl)) ?_;refine b0P (some 23) (.int .i64 l.length) ?_;refine b0R (some 24) (.int .i64 (l.length-1)) (Eq.trans (b:=.ok (.value (.int .i64 (IntKind.i64.wrap ((l.length:Int)-1)))) _) (by kernel_rfl) (by rw[show IntKind.i64.wrap ((l.length:Int)-1)=l.length-1 by rw[IntKind.wrap_i64];omega])) ?_;refine b0R (some 25) (.bool m) (b4a rfl (by kernel_rfl) (by kernel_rfl) hmd) ?_;refine b0W (some 26) 60 #[.agg cs.toArray,.bool m] (HF.out _ HX.out) ?_;rintro r W3 ⟨rfl,hb⟩;replace HX:=Hi_ (HX.out.tr hb);replace HQ2:=Hi_ (HQ2.out.keep hb);clear hb HK;refine⟨_,rfl,?_⟩;refine b0P (some 27) (.bool (!bm)) ?_;refine b0C ?_;try simp only[Act.put,lA,lB,lC]
   cases bm with
   | false =>
    have HR:Hid (1=T):=Hi_ (by rw[←HD.out,Bool.false_and];rfl);go_wp2;go_ret;exact⟨by rw[←HR.out];rfl,HB.out.tr HX.out⟩
   | true =>
    rw[Bool.true_and] at HD;go_wp2;go_roundw
    case rel=>exact⟨j+1,by go_num,by omega,HD,Hi_ (HB.out.tr HX.out),HQ2⟩
    case measure=>simp[intOf];omega
theorem b6P:∀{l:List TV},(∀v∈l,v.ok=true)→(b2A l).size≤29*l.length
 | [],_=>Nat.zero_le _
 | v::l,h=>by
  have h1:=b6P (l:=l) fun x hx=>h x (by simp[hx]);have hv:=h v (by simp);have hr:=TV.range hv;have hd:=b9N hr;unfold TV.ok at hv;rw[Bool.and_eq_true] at hv;have hn:=b1k hv.1;rw[b2A,ByteArray.size_append,List.length_cons]
  have hs:v.text.size≤29:=by
   unfold TV.text;have e1:vaB.size=6:=rfl;have e2:b7f.size=2:=rfl;have e3:arB.size=6:=rfl;have e4:spB.size=1:=rfl;split
   ·simp only[ByteArray.size_append];omega
   ·simp only[ByteArray.size_append];omega
  omega
theorem TF.text_small{f:TF}{m:Bool}(hok:f.ok m=true)(hb:f.big=false)(hf:b1H f.cmds 1=true):(f.text m).size≤500+800*b1S f.cmds:=by
 obtain⟨q1,q2,q3⟩:=TF.parts hok;unfold TF.big at hb;rw[Bool.or_eq_false_iff,Bool.or_eq_false_iff] at hb;obtain⟨⟨b1,b2⟩,b3⟩:=hb;replace b1:=of_decide_eq_false b1;replace b2:=of_decide_eq_false b2;have h1:=b6P q2;have e0:b4S.size=2:=rfl;have h2:=b9l (d:=1) (ind:=b4S) q3 hf (by omega);unfold TF.text;unfold TF.ok at hok;simp only[Bool.and_eq_true] at hok;have hp:(b2Z f.params).size≤f.params.length*(12+2):=b7p fun x hx=>b1k (List.all_eq_true.1 hok.1.1.2 x hx);have e1:c8H.size=7:=rfl;have e2:c8F.size=5:=rfl;have e3:b0T.size=1:=rfl;have e4:c8G.size=4:=rfl;have e5:c8J.size=9:=rfl;have e6:b7f.size=2:=rfl;have e7:c4X.size=2:=rfl;have e8:emp.size=0:=rfl;cases m with
 | true =>
  rw[if_pos rfl,if_pos rfl];simp only[ByteArray.size_append];omega
 | false =>
  have h3:=hok.1.1.1;rw[if_neg (by decide),Bool.and_eq_true] at h3;have h4:=b1k h3.1;have h5:=TE.text_size _ (q1 rfl);have h6:=b7C b3;rw[if_neg (by decide),if_neg (by decide)];simp only[ByteArray.size_append];omega
theorem b6O:∀{l:List TF},b4R l=true→(∀f∈l,f.big=false∧b1H f.cmds 1=true)→(b1Z l).size≤500*l.length+800*(l.map fun f=>b1S f.cmds).sum
 | [],_,_=>Nat.zero_le _
 | [f],h,hb=>by
  have h1:=hb f (by simp);have h2:=TF.text_small h h1.1 h1.2;rw[b1Z,b1Z,ByteArray.size_append,show decide (([]:List TF).length=0)=true from rfl];have e:emp.size=0:=rfl;simp only[List.length_nil,List.length_cons,List.map_cons,List.map_nil,List.sum_cons,List.sum_nil];omega
 | f::g::l,h,hb=>by
  rw[b4R,Bool.and_eq_true] at h;have h1:=hb f (by simp);have h2:=TF.text_small h.1 h1.1 h1.2;have h3:=b6O h.2 fun x hx=>hb x (by simp[hx]);rw[b1Z,ByteArray.size_append,show decide ((g::l).length=0)=false by simp];rw[List.length_cons,List.map_cons,List.sum_cons];omega
theorem b8E{l:List TF}(h:b4Q l=0):b4R l=true∧(b1Z l).size≤50000∧0<l.length:=by
 unfold b4Q at h;cases hm:many l with
 | true=>rw[hm,if_pos rfl] at h;cases h
 | false =>
  rw[hm,if_neg (by decide)] at h;by_cases h0:l.length=0
  ·rw[if_pos h0] at h;cases h
  ·rw[if_neg h0] at h;cases hok:b4R l with
   | false=>rw[hok,if_neg (by decide)] at h;cases h
   | true =>
    unfold many c1s at hm;simp only[Bool.or_eq_false_iff,Bool.not_eq_false'] at hm;obtain⟨h6,⟨hb,hf⟩,hs⟩:=hm;replace h6:=of_decide_eq_false h6;replace hs:=of_decide_eq_false hs
    have h1:=b6O hok fun f hfm=>⟨by
     rw[List.any_eq_false] at hb;have:=hb f hfm
     simpa using this,List.all_eq_true.1 hf f hfm⟩
    exact⟨rfl,by omega,by omega⟩
theorem c0b{l:List TF}(h:0<l.length):(b1Z l).size≠0:=by
 cases l with
 | nil=>simp at h
 | cons f l =>
  rw[b1Z,ByteArray.size_append];unfold TF.text;simp only[ByteArray.size_append];have e:c4X.size=2:=rfl;omega
theorem PrS.new{w0 W:World}(hb:Bel w0 W):PrS w0.heap.size W.heap.size 0 emp (W.alloc (.cells #[.pointer none,.slice none 0 0,.int .i64 0] 71)):=
 ⟨hb.size,.pointer none,.slice none 0 0,Or.inl rfl,heap_alloc_new W _,World.ownsRow_nil _ _ _ _⟩
def b6V(l:List TF):ByteArray:=if b4Q l=0 then b1Z l else emp
theorem c1M(l:List TF)(v:Value)(w:World)(h:Sl tfR w v l)(ht:Tab w) :
  Calls Tryz.prog 13 #[.agg #[v]] w fun r w'=>r=.returned (.tuple #[.string (b6V l),.int .i64 (b4Q l)])∧Bel w w':=by
 have HSL:=Hi_ h;have HCK:=Hi_ (fun W (hb:Bel w W)=>b6u l v W (h.keep hb));have HFN:=Hi_ (fun x m q s cs W h hx hp hok h1 h2=>c5X w ht x m q s cs W h hx hp hok h1 h2);have HSM:=Hi_ (fun(h:b4Q l=0)=>b8E h);have HST:Hid (b6V l=if b4Q l=0 then b1Z l else emp):=Hi_ rfl;obtain⟨A,c,rfl,hcl,hm,-⟩:=h;have hll:l.length≤9223372036854775807:=by have:=hm.1;simp only[maxLen] at this;omega
 have HQ:=Hi_ (Blk.new w 24 #[.slice A l.length c]);have HB0:=Hi_ ((Bel.rfl_ w).al (.cells #[.slice A l.length c] 24));obtain⟨e,he⟩:∃e,b4Q l=e:=⟨_,rfl⟩;rw[he] at HCK HSM HST ⊢;clear hcl hm he ht;generalize b6V l=SH at *;go_enter Tryz.func13,Tryz.ntmps13;go_upto_region 1 with fail;have hPw:w.heap.size<(w.alloc (.cells #[.slice A l.length c] 24)).heap.size:=by simp
 generalize w.alloc (.cells #[.slice A l.length c] 24)=W0 at *;have c0:=HQ.out.cell (i:=0) (v:=.slice A l.length c) rfl;go_wp2_with fail
 refine(HCK.out _ HB0.out).mono ?_;rintro r w1 ⟨rfl,hb⟩;replace HB0:=Hi_ (HB0.out.tr hb);replace HQ:=Hi_ (HQ.out.keep hb);have hPw1:=hb.size;clear hb c0;by_cases h0:e=0
 rotate_left
 ·have d0:(e != 0)=true:=by simpa using h0
  have HR:Hid (SH=emp):=Hi_ (by rw[HST.out,if_neg h0]);clear h0;go_wp2;go_ret2
  exact⟨by rw[HR.out];rfl,HB0.out⟩
 subst h0;obtain⟨hok,hsz,hlen⟩:=HSM.out rfl;have HT:Hid (emp++b1Z (l.drop 0)=SH):=Hi_ (by rw[HST.out,if_pos rfl,b9v];rfl);have hSH:SH.size≤50000:=by rw[HST.out,if_pos rfl];exact hsz
 have hSN:SH.size≠0:=by rw[HST.out,if_pos rfl];exact c0b hlen
 have HOK:=Hi_ (fun(k:Nat) (x:TF) (hx:l[k]? = some x)=>c3m hok hx);clear HST HSM hok hsz hlen HCK;go_upto_region 5 with fail;have HP:=Hi_ (PrS.new HB0.out);have HX:=Hi_ (HB0.out.al (.cells #[.pointer none,.slice none 0 0,.int .i64 0] 71));replace HQ:=Hi_ (HQ.out.keep ((Bel.rfl_ w1).al (.cells #[.pointer none,.slice none 0 0,.int .i64 0] 71)));have hPq:w.heap.size≠w1.heap.size:=by omega
 clear HB0 hPw hPw1;generalize w1.alloc (.cells #[.pointer none,.slice none 0 0,.int .i64 0] 71)=W2 at *;generalize w1.heap.size=q at *;have c0:=HQ.out.cell (i:=0) (v:=.slice A l.length c) rfl;go_wp2;clear c0;go_loopw [18] (fun i wr=>∃(j:Nat) (t:ByteArray),i=.int .i64 j∧j≤l.length∧Hid (t++b1Z (l.drop j)=SH)∧Hid (PrS w.heap.size q 0 t wr)∧Hid (Bel w wr)∧Hid (Blk wr w.heap.size 24 #[.slice A l.length c])) (fun i _=>l.length-(intOf i).toNat)
 case atStart=>exact⟨0,emp,rfl,Nat.zero_le _,HT,HP,HX,HQ⟩
 case round =>
  obtain⟨j,t,rfl,hj,HS,HP,HX,HQ⟩:=hrel;obtain⟨WO,hWO⟩:∃W,W=wr:=⟨_,rfl⟩;subst hWO;clear HT;by_cases hlt:j<l.length
  rotate_left
  ·have hdd:decide ((j:Int)<l.length)=false:=decide_eq_false (by omega);have HR:Hid (t=SH):=Hi_ (by rw[←HS.out,c2b (by omega)];exact ByteArray.append_empty.symm);have HRD:=Hi_ (c6q (s:=t) HP.out (by rw[HR.out];exact hSN));go_wp2_with fail
   refine HRD.out.mono ?_;rintro r w3 ⟨rfl,hb⟩;have HB3:Hid (Bel w w3):=Hi_ (Below.trans HX.out hb);clear hb HRD;go_wp2;go_ret2
   exact⟨by rw[←HR.out];rfl,HB3.out⟩
  have hdd:decide ((j:Int)<l.length)=true:=decide_eq_true (by omega);obtain⟨x,hx⟩:∃x,l[j]? = some x:=⟨_,List.getElem?_eq_getElem hlt⟩;obtain⟨b,o,cs,rfl,hcs,hca⟩:=c7H HSL.out hx;obtain⟨m,hm⟩:∃m,decide (j+1=l.length)=m:=⟨_,rfl⟩;have HS2:Hid ((t++x.text m)++b1Z (l.drop (j+1))=SH):=Hi_ (by rw[←hm,ByteArray.append_assoc,←c0Z hx];exact HS.out)
  have hmd:((j:Int)==l.length-1)=m:=by
   rw[←hm,Bool.eq_iff_iff];simp;omega
  have hz:t.size+(x.text m).size≤50000:=by
   have h1:=hSH;rw[←HS2.out,ByteArray.size_append,ByteArray.size_append] at h1;omega
  have hxo:x.ok m=true:=by rw[←hm];exact HOK.out j x hx
  have HF:=Hi_ (fun W (h1:Bel w W) (h2:PrS w.heap.size q 0 t W)=>HFN.out x m q t cs W hcs h1 h2 hxo (by omega) (by omega));have i0:(0:Int)≤j:=by omega
  have i1:(j:Int)<l.length:=by omega
  have HL:=Hi_ (tfR.len hcs);have HON:=Hi_ (b4O hcs);have HCA:=Hi_ (hca.keep HX.out);have hWq:=Pr.lt HP.out;clear hcs hca hx HS hm hxo HFN HOK;have c0:=HQ.out.cell (i:=0) (v:=.slice (some ⟨b,o,none⟩) l.length c) rfl;go_upto_region 7 with fail;clear c0;refine b0E ?_;try dsimp only[List.append]
  refine b0P (some 20) (.int .i64 j) ?_;refine b0R (some 21) (.pointer (some ⟨b,o+j*10,none⟩)) (by go_simp) ?_;refine b0R (some 22) _ (b0B 51 (.tmp 21) rfl b5Q b (o+j*10) (by kernel_rfl) cs HCA.out HL.out (by kernel_rfl)) ?_;refine b2X (some 7) rfl 51 rfl rfl b5Q fun z hzz=>?_;refine b0P (some 6) (.int .i64 j) ?_;refine b2Y none rfl 51 (.tmp 7) (.tmp 22) rfl rfl b5Q WO.heap.size cs (by kernel_rfl) (by kernel_rfl) (Blk.new WO 51 z) hzz HL.out HON.out ?_;have hb:Bel WO ((WO.alloc (.cells z 51)).setRow WO.heap.size cs.toArray):=((Bel.rfl_ WO).al _).row (Nat.le_refl _) _;have HK:=Hi_ ((Blk.new WO 51 z).row_same cs.toArray);replace HP:=Hi_ (HP.out.keep hb);replace HX:=Hi_ (HX.out.tr hb);replace HQ:=Hi_ (HQ.out.keep hb);clear hb hzz;generalize(WO.alloc (.cells z 51)).setRow WO.heap.size cs.toArray=W3 at *;generalize WO.heap.size=K at *;refine b0C ?_;try simp only[Act.put,lA,lB,lC]
  go_upto_region 8 with fail;refine b0E ?_;try dsimp only[List.append]
  refine b0P (some 23) (.pointer (some ⟨q,0,none⟩)) ?_;refine b0R (some 24) _ (b0B 51 (.tmp 7) rfl b5Q K 0 (by kernel_rfl) cs (b3V HK.out) HL.out (by kernel_rfl)) ?_;refine b0P (some 25) (.int .i64 j) ?_;refine b0P (some 26) (.pointer (some ⟨w.heap.size,0,none⟩)) ?_;refine b0R (some 27) (.slice (some ⟨b,o,none⟩) l.length c) (b6N (HQ.out.cell (i:=0) rfl)) ?_;refine b0P (some 28) (.int .i64 l.length) ?_;refine b0R (some 29) (.int .i64 (l.length-1)) (Eq.trans (b:=.ok (.value (.int .i64 (IntKind.i64.wrap ((l.length:Int)-1)))) _) (by kernel_rfl) (by rw[show IntKind.i64.wrap ((l.length:Int)-1)=l.length-1 by rw[IntKind.wrap_i64];omega])) ?_;refine b0R (some 30) (.bool m) (b4a rfl (by kernel_rfl) (by kernel_rfl) hmd) ?_;refine b0W (some 31) 34 #[.pointer (some ⟨q,0,none⟩),.agg cs.toArray,.bool m] (HF.out _ HX.out HP.out) ?_;rintro r W4 ⟨rfl,hp,hk⟩;replace HX:=Hi_ (Kp.bel HX.out hk);replace HQ:=Hi_ (hk.blk HQ.out hPq (by decide));replace HP:=Hi_ hp;clear hp hk HK HF;refine⟨_,rfl,?_⟩;refine b0C ?_;try simp only[Act.put,lA,lB,lC]
  go_wp2;go_roundw
  case rel=>exact⟨j+1,_,by go_num,by omega,HS2,HP,HX,HQ⟩
  case measure=>simp[intOf];omega
end Go.Proofs.YtmfjlcpjemccmaaGreatDoor
