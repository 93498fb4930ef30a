/- Expressions of a program, by the document: walked. Each lemma states its own conditions. -/
import Derived.Test.YtgkpplbomciehaaStt06
namespace Go.Proofs.Ytgkpplbomciehaa
set_option maxRecDepth 20000
set_option maxHeartbeats 16000000
open Go.RowKit
theorem b8H{z:List Int}{l:List PE}{k:Nat}{x:PE}(hx:l[k]? = some x):b2D z (l.drop k)=orE (b1Y z x) (b2D z (l.drop (k+1))):=by
 obtain⟨hl,rfl⟩:=List.getElem?_eq_some_iff.1 hx;rw[List.drop_eq_getElem_cons hl,b2D]
theorem b9S{z:List Int}{l:List PE}{k:Nat}(h:l.length≤k):b2D z (l.drop k)=0:=by rw[List.drop_eq_nil_of_le h,b2D]
theorem b1I{a:Int}(h:a≠0)(b:Int):orE a b=a:=by unfold orE;rw[if_neg h]
theorem b4E(b:Int):orE 0 b=b:=by unfold orE;rw[if_pos rfl]
mutual
theorem PE.size_all:∀(e:PE) (m:Int),0≤m→(e.size m≤m↔(e.all.length:Int)≤m)∧(e.size m≤m→e.size m=e.all.length)
 | .mk k n args,m,hm=>by
  rw[PE.size,PE.all];have:=b7n args 1 m (by omega);rw[List.length_cons];have e1:((b3w args).length+1:Nat)=1+((b3w args).length:Int):=by omega
  rw[e1];exact this
theorem b7n:∀(l:List PE) (a m:Int),a≤m+1→(b2r l a m≤m↔a+(b3w l).length≤m)∧(b2r l a m≤m→b2r l a m=a+(b3w l).length)
 | [],a,m,_=>by rw[b2r,b3w];simp
 | x::xs,a,m,ha=>by
  rw[b2r,b3w,List.length_append];by_cases h:m<a
  ·rw[if_pos h];exact⟨⟨fun h2=>by omega,fun h2=>by omega⟩,fun h2=>by omega⟩
  ·rw[if_neg h];obtain⟨h1,h2⟩:=PE.size_all x (m-a) (by omega);obtain⟨s1,s2⟩:=PE.size_le x (m-a) (by omega);obtain⟨h3,h4⟩:=b7n xs (a+x.size (m-a)) m (by omega);by_cases hs:x.size (m-a)≤m-a
   ·have e:=h2 hs;rw[e] at h3 h4 ⊢;exact⟨⟨fun h=>by have:=h3.1 h;omega,fun h=>h3.2 (by omega)⟩,fun h=>by rw[h4 h];omega⟩
   ·have:¬((x.all.length:Int)≤m-a):=fun h=>hs (h1.2 h);refine⟨⟨fun h=>?_,fun h=>by omega⟩,fun h=>?_⟩
    ·have:=h3.1 h;omega
    ·have:=h3.1 h;omega
end
theorem b2j(z:List Int)(e:PE)(val zv:Value)(w:World)(h:PEV w e val)(hs:Sl b2l w zv z) :
  Calls Try.prog 57 #[val,zv] w fun r w'=>r=.returned (.int .i64 (e.err z))∧Bel w w':=by
 have HS:=Lib.hid (fun W (hb:Bel w W)=>b9d e 15 val W (by decide) (by decide) (h.keep hb));have HAL:=Lib.hid (fun W (hb:Bel w W) (h15:e.all.length≤15)=>b7N w e val W h15 h hb);have HG:Hid (e.err z=if 15<e.size 15 then 2 else b2D z e.all):=Lib.hid (by unfold PE.err;rw[PE.parts_first]);have HSA:=(PE.size_all e 15 (by decide)).1;have hle:=PE.size_le e 15 (by decide);obtain⟨v,rfl,A,c,rfl,-⟩:=h;obtain⟨Z,cz,rfl,hzc,hzm,hZ⟩:=hs;have HZ:=Lib.hid hZ;have hlz:z.length≤9223372036854775807:=by have:=hzm.1;simp only[maxLen] at this;omega
 clear hzc hzm hZ;generalize e.err z=T at *;generalize e.size 15=y at *;generalize e.kind=k at *;generalize e.n=n at *;have HB:=Lib.hid ((Bel.rfl_ w).al (.cells #[.int .i64 k,.int .i64 n,.slice A e.args.length c] 47));have z0:∀i u,(#[Value.int .i64 k,.int .i64 n,.slice A e.args.length c]:Array Value)[i]? = some u→(w.alloc (.cells #[.int .i64 k,.int .i64 n,.slice A e.args.length c] 47)).cell? ⟨w.heap.size,i,none⟩=some u:=fun i u hu=>(Blk.new w _ _).cell hu;go_enter Try.func57,Try.ntmps57;go_wp2_with fail
 refine(HS.out _ HB.out).mono ?_;rintro r w1 ⟨rfl,hb⟩;have q0:=hb.cell (z0 0 _ rfl);have q1:=hb.cell (z0 1 _ rfl);have q2:=hb.cell (z0 2 _ rfl);replace HB:=Lib.hid (HB.out.tr hb);clear hb z0;by_cases hy:15<y
 ·have HR:Hid (T=2):=Lib.hid (by rw[HG.out,if_pos hy]);have d0:decide (y > 15)=true:=decide_eq_true hy;go_wp2;go_ret;exact⟨by rw[HR.out];rfl,HB.out⟩
 have d0:decide (y > 15)=false:=decide_eq_false hy;have h15:e.all.length≤15:=by have:=HSA.1 (by omega);omega
 have HT:Hid (b2D z (e.all.drop 0)=T):=Lib.hid (by rw[HG.out,if_neg hy];rfl);clear HG HSA hle;go_wp2_with fail
 refine(HAL.out _ HB.out h15).mono ?_;rintro r w2 ⟨v2,cells,rfl,hown,-,hper,hb⟩;have HSL:Hid (Sl peR w2 v2 e.all):=Lib.hid (Sl.own (r:=peR) hown rfl fun i x hx=>(hper i x hx).keep (HB.out.tr hb));replace HB:=Lib.hid (HB.out.tr hb);clear hb hown hper HAL q0 q1 q2 hy;generalize e.all=l at *;obtain⟨A2,c2,rfl,-,-,hA2⟩:=id HSL.out;have HA2:=Lib.hid hA2;clear hA2 HSL;go_wp2;go_loopw [6] (fun i wr=>∃j:Nat,i=.int .i64 j∧j≤l.length∧Hid (b2D z (l.drop j)=T)∧Hid (Bel w2 wr)) (fun i _=>l.length-(intOf i).toNat)
 case atStart=>exact⟨0,rfl,by omega,HT,Bel.rfl_ _⟩
 case round =>
  obtain⟨j,rfl,hj,HJ,HW⟩:=hrel;clear HT HS d0;by_cases hlt:j<l.length
  rotate_left
  ·have HR:Hid (0=T):=Lib.hid (by rw[←HJ.out,b9S (by omega)]);go_wp2;go_ret;exact⟨by rw[←HR.out];rfl,HB.out.tr HW.out⟩
  obtain⟨q,hq⟩:∃e,l[j]? = some e:=⟨_,List.getElem?_eq_getElem hlt⟩;obtain⟨b2,o2,rfl,hA⟩:=HA2.out (by omega);obtain⟨B,mm,cc,hs,y0,y1,y2⟩:=peR.cells hA hq;have y0:=HW.out.cell y0;have y1:=HW.out.cell y1;have y2:=HW.out.cell y2;obtain⟨_,_,hv,hcq,hm,-⟩:=id hs;have hmm:mm=q.args.length:=by injection hv
  have hlm:mm≤9223372036854775807:=by rw[hmm];have:=hm.1;simp only[maxLen] at this;omega
  clear hm hcq;have HJ2:Hid (orE (b1Y z q) (b2D z (l.drop (j+1)))=T):=Lib.hid (by rw[←b8H hq];exact HJ.out);have HPQ:Hid (b1Y z q=if b1B q.kind<0 then 7 else if(mm:Int)≠b1B q.kind then 1 else if q.kind=1 then(if -9999999≤q.n∧q.n≤9999999 then 0 else 3) else if q.kind≤3 then(if 0≤q.n∧q.n<z.length then(if q.kind=2∧0<z.getD q.n.toNat 0∨q.kind=3∧z.getD q.n.toNat 0=0 then 7 else 0) else 5) else if q.n≠0 then 3 else 0):=Lib.hid (by rw[hmm];rfl);clear hmm hv hs hq hA HJ HA2;generalize b1Y z q=P at *;generalize hF:b2D z (l.drop (j+1))=F at *;generalize q.kind=qk at *;generalize q.n=qn at *;have HAR:Hid (∀W,Calls Try.prog 107 #[.int .i64 qk] W fun r w'=>r=.returned (.int .i64 (b1B qk))∧Bel W w'):=Lib.hid (b9G _)
  have hA0:b1B qk<0↔(qk<1∨10<qk):=by
   unfold b1B;repeat' split
   all_goals omega
  generalize b1B qk=ar at *;have HK:=Lib.hid (Blk.new wr 47 #[.int .i64 qk,.int .i64 qn,.slice B mm cc]);have HWB:=Lib.hid (HB.out.tr (HW.out.al (.cells #[.int .i64 qk,.int .i64 qn,.slice B mm cc] 47)));have HW2:=Lib.hid (HW.out.al (.cells #[.int .i64 qk,.int .i64 qn,.slice B mm cc] 47));go_wp2_with fail
  refine(HAR.out _).mono ?_;rintro r w3 ⟨rfl,hb⟩;have c0:=hb.cell (HK.out.cell (i:=0) rfl);have c1:=hb.cell (HK.out.cell (i:=1) rfl);have c2':=hb.cell (HK.out.cell (i:=2) rfl);have HB3:=Lib.hid (HWB.out.tr hb);have HW3:=Lib.hid (HW2.out.tr hb);clear hb HK HWB HW2 HAR HW y0 y1 y2;generalize wr.heap.size=K at *;by_cases h1:ar<0
  ·have HP:P=7:=by rw[HPQ.out,if_pos h1]
   have d1:decide (ar<0)=true:=decide_eq_true h1;have HR:Hid (7=T):=Lib.hid (by rw[←HJ2.out,HP,b1I (by decide)]);clear hA0 HPQ HJ2 HP h1;go_wp2;go_ret;exact⟨by rw[←HR.out];rfl,HB3.out⟩
  have d1:decide (ar<0)=false:=decide_eq_false h1;by_cases h2:(mm:Int)≠ar
  ·have HP:P=1:=by rw[HPQ.out,if_neg h1,if_pos h2]
   have d2:((mm:Int) != ar)=true:=by simpa using h2
   have HR:Hid (1=T):=Lib.hid (by rw[←HJ2.out,HP,b1I (by decide)]);clear hA0 HPQ HJ2 HP h1 h2;go_wp2;go_ret;exact⟨by rw[←HR.out];rfl,HB3.out⟩
  have d2:((mm:Int) != ar)=false:=by simpa using h2
  by_cases k1:qk=1
  ·have e1:(qk==1)=true:=by rw[k1];rfl
   by_cases hn:-9999999≤qn∧qn≤9999999
   ·have HP:P=0:=by rw[HPQ.out,if_neg h1,if_neg h2,if_pos k1,if_pos hn]
    have HR:Hid (F=T):=Lib.hid (by rw[←HJ2.out,HP,b4E]);have dn:decide (-9999999≤qn∧qn≤9999999)=true:=decide_eq_true hn;clear hA0 HPQ HJ2 HP h1 h2 k1 hn;go_wp2_with fail
    refine(b1S _ _ _ _).mono ?_;rintro r w4 ⟨rfl,rfl⟩;rw[dn];clear dn;go_wp2;go_roundw
    case rel=>exact⟨j+1,by go_num,by omega,Lib.hid (by rw[hF];exact HR.out),HW3⟩
    case measure=>simp[intOf];omega
   ·have HP:P=3:=by rw[HPQ.out,if_neg h1,if_neg h2,if_pos k1,if_neg hn]
    have HR:Hid (3=T):=Lib.hid (by rw[←HJ2.out,HP,b1I (by decide)]);have dn:decide (-9999999≤qn∧qn≤9999999)=false:=decide_eq_false hn;clear hA0 HPQ HJ2 HP h1 h2 k1 hn;go_wp2_with fail
    refine(b1S _ _ _ _).mono ?_;rintro r w4 ⟨rfl,rfl⟩;rw[dn];clear dn;go_wp2;go_ret;exact⟨by rw[←HR.out];rfl,HB3.out⟩
  have e1:(qk==1)=false:=by simpa using k1
  by_cases k3:qk≤3
  ·have dk:decide (qk≤3)=true:=decide_eq_true k3;have hk0:1≤qk:=by omega
   by_cases hn:0≤qn∧qn≤(z.length:Int)-1
   ·have dn:decide (0≤qn∧qn≤(z.length:Int)-1)=true:=decide_eq_true hn;obtain⟨x,hx⟩:∃x,z[qn.toNat]? = some x:=⟨_,List.getElem?_eq_getElem (by omega)⟩;have hgx:z.getD qn.toNat 0=x:=by rw[List.getD_eq_getElem?_getD,hx];rfl
    obtain⟨b,o,rfl,hA⟩:=HZ.out (by omega);have cx:=HB3.out.cell (b2l.cell hA hx);have HP0:Hid (P=if qk=2∧0<x∨qk=3∧x=0 then 7 else 0):=Lib.hid (by rw[HPQ.out,if_neg h1,if_neg h2,if_neg k1,if_pos k3,if_pos (by omega),hgx]);obtain⟨m,hm⟩:∃m:Nat,qn=m:=⟨qn.toNat,by omega⟩;subst hm;obtain⟨hn0,hn1⟩:=hn;rw[Int.toNat_natCast] at cx;have hmz:(m:Int)<z.length:=by omega
    clear hA hx hgx HZ h1 h2 hA0 HPQ;by_cases k2:qk=2
    ·have e2:(qk==2)=true:=by rw[k2];rfl
     have e3:(qk==3)=false:=by rw[k2];rfl
     by_cases hx1:0<x
     ·have HP:P=7:=by rw[HP0.out,if_pos (by omega)]
      have HR:Hid (7=T):=Lib.hid (by rw[←HJ2.out,HP,b1I (by decide)]);have dx:decide (x > 0)=true:=decide_eq_true hx1;clear HJ2 HP HP0 k1 k2 k3 hk0 hx1;go_wp2_with fail
      refine(b1S _ _ _ _).mono ?_;rintro r w4 ⟨rfl,rfl⟩;rw[dn];clear dn;go_wp2;go_ret;exact⟨by rw[←HR.out];rfl,HB3.out⟩
     ·have HP:P=0:=by rw[HP0.out,if_neg (by omega)]
      have HR:Hid (F=T):=Lib.hid (by rw[←HJ2.out,HP,b4E]);have dx:decide (x > 0)=false:=decide_eq_false hx1;clear HJ2 HP HP0 k1 k2 k3 hk0 hx1;go_wp2_with fail
      refine(b1S _ _ _ _).mono ?_;rintro r w4 ⟨rfl,rfl⟩;rw[dn];clear dn;go_wp2;go_roundw
      case rel=>exact⟨j+1,by go_num,by omega,Lib.hid (by rw[hF];exact HR.out),HW3⟩
      case measure=>simp[intOf];omega
    ·have e2:(qk==2)=false:=by simpa using k2
     have e3:(qk==3)=true:=by rw[show qk=3 by omega];rfl
     by_cases hx1:x=0
     ·have HP:P=7:=by rw[HP0.out,if_pos (by omega)]
      have HR:Hid (7=T):=Lib.hid (by rw[←HJ2.out,HP,b1I (by decide)]);have dx:(x==0)=true:=by rw[hx1];rfl
      clear HJ2 HP HP0 k1 k2 k3 hk0 hx1;go_wp2_with fail
      refine(b1S _ _ _ _).mono ?_;rintro r w4 ⟨rfl,rfl⟩;rw[dn];clear dn;go_wp2;go_ret;exact⟨by rw[←HR.out];rfl,HB3.out⟩
     ·have HP:P=0:=by rw[HP0.out,if_neg (by omega)]
      have HR:Hid (F=T):=Lib.hid (by rw[←HJ2.out,HP,b4E]);have dx:(x==0)=false:=by simpa using hx1
      clear HJ2 HP HP0 k1 k2 k3 hk0 hx1;go_wp2_with fail
      refine(b1S _ _ _ _).mono ?_;rintro r w4 ⟨rfl,rfl⟩;rw[dn];clear dn;go_wp2;go_roundw
      case rel=>exact⟨j+1,by go_num,by omega,Lib.hid (by rw[hF];exact HR.out),HW3⟩
      case measure=>simp[intOf];omega
   ·have dn:decide (0≤qn∧qn≤(z.length:Int)-1)=false:=decide_eq_false hn;have HP:P=5:=by rw[HPQ.out,if_neg h1,if_neg h2,if_neg k1,if_pos k3,if_neg (by omega)]
    have HR:Hid (5=T):=Lib.hid (by rw[←HJ2.out,HP,b1I (by decide)]);clear hA0 HPQ HJ2 HP HZ h1 h2 k1 k3 hk0 hn;go_wp2_with fail
    refine(b1S _ _ _ _).mono ?_;rintro r w4 ⟨rfl,rfl⟩;rw[dn];clear dn;go_wp2;go_ret;exact⟨by rw[←HR.out];rfl,HB3.out⟩
  have dk:decide (qk≤3)=false:=decide_eq_false k3;by_cases hn:qn=0
  ·have HP:P=0:=by rw[HPQ.out,if_neg h1,if_neg h2,if_neg k1,if_neg k3,if_neg (by omega)]
   have HR:Hid (F=T):=Lib.hid (by rw[←HJ2.out,HP,b4E]);have dn:(qn != 0)=false:=by rw[hn];rfl
   clear hA0 HPQ HJ2 HP HZ h1 h2 k1 k3 hn;go_wp2;go_roundw
   case rel=>exact⟨j+1,by go_num,by omega,Lib.hid (by rw[hF];exact HR.out),HW3⟩
   case measure=>simp[intOf];omega
  ·have HP:P=3:=by rw[HPQ.out,if_neg h1,if_neg h2,if_neg k1,if_neg k3,if_pos hn]
   have HR:Hid (3=T):=Lib.hid (by rw[←HJ2.out,HP,b1I (by decide)]);have dn:(qn != 0)=true:=by simpa using hn
   clear hA0 HPQ HJ2 HP HZ h1 h2 k1 k3 hn;go_wp2;go_ret;exact⟨by rw[←HR.out];rfl,HB3.out⟩
def b1W(a:Int×Bool)(k:Int→Int×Bool):Int×Bool:=
 match a with
 | (s,true)=>k s
 | (s,false)=>(s,false)
mutual
def PC.walk(f:Int→PC→Int→Int×Bool):PC→Int→Int→Int×Bool
 | .mk k v g i e args thn els,d,s=>b1W (f s (.mk k v g i e args thn els) d) fun s1=>b1W (b0q f thn (d+1) s1) fun s2=>b0q f els (d+1) s2
def b0q(f:Int→PC→Int→Int×Bool):List PC→Int→Int→Int×Bool
 | [],_,s=>(s,true)
 | x::xs,d,s=>b1W (x.walk f d s) fun s1=>b0q f xs d s1
end
mutual
def PC.okw(f:Int→PC→Int→Int×Bool)(Ok:PC→Int→Int→Prop):PC→Int→Int→Prop
 | .mk k v g i e args thn els,d,s=>Ok (.mk k v g i e args thn els) d s∧∀s1,f s (.mk k v g i e args thn els) d=(s1,true) →
   b3o f Ok thn (d+1) s1∧∀s2,b0q f thn (d+1) s1=(s2,true)→b3o f Ok els (d+1) s2
def b3o(f:Int→PC→Int→Int×Bool)(Ok:PC→Int→Int→Prop):List PC→Int→Int→Prop
 | [],_,_=>True
 | x::xs,d,s=>x.okw f Ok d s∧∀s1,x.walk f d s=(s1,true)→b3o f Ok xs d s1
end
section
variable {f:Int→PC→Int→Int×Bool}{Ok:PC→Int→Int→Prop}{l:List PC}{k:Nat}{x:PC}{d s:Int}
theorem b4q(hx:l[k]? = some x)(d s:Int):b0q f (l.drop k) d s=b1W (x.walk f d s) fun s1=>b0q f (l.drop (k+1)) d s1:=by
 obtain⟨hl,rfl⟩:=List.getElem?_eq_some_iff.1 hx;rw[List.drop_eq_getElem_cons hl,b0q]
theorem b5u(h:l.length≤k)(d s:Int):b0q f (l.drop k) d s=(s,true):=by rw[List.drop_eq_nil_of_le h,b0q]
theorem b5i(hx:l[k]? = some x)(h:b3o f Ok (l.drop k) d s):x.okw f Ok d s∧∀s1,x.walk f d s=(s1,true)→b3o f Ok (l.drop (k+1)) d s1:=by
 obtain⟨hl,rfl⟩:=List.getElem?_eq_some_iff.1 hx;rw[List.drop_eq_getElem_cons hl,b3o] at h;exact h
theorem PC.walk_eq(f:Int→PC→Int→Int×Bool)(x:PC)(d s:Int):x.walk f d s=b1W (f s x d) fun s1=>b1W (b0q f x.thn (d+1) s1) fun s2=>b0q f x.els (d+1) s2:=by
 obtain⟨k,v,g,i,e,args,thn,els⟩:=x;rw[PC.walk];rfl
theorem PC.okw_eq:x.okw f Ok d s↔Ok x d s∧∀s1,f s x d=(s1,true)→b3o f Ok x.thn (d+1) s1∧∀s2,b0q f x.thn (d+1) s1=(s2,true)→b3o f Ok x.els (d+1) s2:=by
 obtain⟨k,v,g,i,e,args,thn,els⟩:=x;rw[PC.okw];exact Iff.rfl
theorem PC.ind2{p:PC→Prop}(h:∀x:PC,(∀y∈x.thn,p y)→(∀y∈x.els,p y)→p x):∀x,p x:=
 PC.ind fun _ _ _ _ _ _ _ _ h1 h2=>h _ h1 h2
end
theorem b5V(x:PC)(l:List PC):b0r (x::l)=x.cnt+b0r l:=by rw[b0r]
def b5D(s:Int)(_:PC)(_:Int):Int×Bool:=(s+1,true)
def OkM(_:PC)(d s:Int):Prop:=0≤s∧s≤1000∧0≤d∧d≤6
theorem b4O:∀{l:List PC},(∀x∈l,∀d s:Int,x.walk b5D d s=(s+x.cnt,true))→∀d s:Int,b0q b5D l d s=(s+b0r l,true)
 | [],_,d,s=>by rw[b0q,b0r];simp
 | x::xs,h,d,s=>by
  rw[b0q,h x (by simp),b1W,b4O fun y hy=>h y (by simp[hy])];rw[b5V]
  congr 1
  omega
theorem b7g:∀x:PC,∀d s:Int,x.walk b5D d s=(s+x.cnt,true):=
 PC.ind2 fun x h1 h2 d s=>by
  rw[PC.walk_eq,PC.cnt_eq,b5D,b1W,b4O h1,b1W,b4O h2]
  congr 1
  omega
theorem b6T(l:List PC)(d s:Int):b0q b5D l d s=(s+b0r l,true):=b4O (fun x _=>b7g x) d s
theorem b5L:∀{l:List PC},(∀x∈l,∀d s:Int,x.fine d=true→d≤5→0≤d→0≤s→s+x.cnt≤1000→x.okw b5D OkM d s)→∀d s:Int,b1P l d=true→0≤d→0≤s→s+b0r l≤1000→b3o b5D OkM l d s
 | [],_,_,_,_,_,_,_=>by rw[b3o];trivial
 | x::xs,h,d,s,hf,hd0,hs,hs2=>by
  obtain⟨f1,f2,f3⟩:=b3l hf;rw[b5V] at hs2;rw[b3o,b7g];refine⟨h x (by simp) d s f2 f1 hd0 hs (by omega),fun s1 he=>?_⟩;injection he with he _;subst he;exact b5L (fun y hy=>h y (by simp[hy])) d _ f3 hd0 (by omega) (by omega)
theorem c2u:∀x:PC,∀d s:Int,x.fine d=true→d≤5→0≤d→0≤s→s+x.cnt≤1000→x.okw b5D OkM d s:=
 PC.ind2 fun x h1 h2 d s hf hd hd0 hs hs2=>by
  obtain⟨f1,f2⟩:=PC.fine_in hf;rw[PC.cnt_eq] at hs2;rw[PC.okw_eq];refine⟨⟨by omega,by omega,by omega,by omega⟩,fun s1 he=>?_⟩;rw[b5D] at he;injection he with he _;subst he;refine⟨b5L h1 _ _ f1 (by omega) (by omega) (by omega),fun s2 he=>?_⟩;rw[b6T] at he;injection he with he _;subst he;exact b5L h2 _ _ f2 (by omega) (by omega) (by omega)
theorem c1k(l:List PC)(d s:Int):b1P l d=true→0≤d→0≤s→s+b0r l≤1000→b3o b5D OkM l d s:=b5L (fun x _=>c2u x) d s
def b4h(s:Int)(_:PC)(d:Int):Int×Bool:=(s+1,decide (s+1≤40) && decide (d≤5))
def c1N(ok:Bool)(n s:Int)(r:Int×Bool):Prop:=(r.2=true↔ok=true∧n≤40)∧(r.2=true→r.1=n)∧s≤r.1∧r.1≤41
theorem b5I:∀{l:List PC},(∀x∈l,∀d s:Int,0≤s→s≤40→0≤d→d≤6→c1N (decide (d≤5) && x.fine d) (s+x.cnt) s (x.walk b4h d s)∧x.okw b4h OkM d s)→∀d s:Int,0≤s→s≤40→0≤d→d≤6→c1N (b1P l d) (s+b0r l) s (b0q b4h l d s)∧b3o b4h OkM l d s
 | [],_,d,s,hs,hs2,_,_=>by
  rw[b0q,b3o,b1P,b0r];exact⟨⟨by simp;omega,fun _=>by simp,by simp,by simp;omega⟩,trivial⟩
 | x::xs,h,d,s,hs,hs2,hd0,hd=>by
  obtain⟨a0,a5⟩:=h x (by simp) d s hs hs2 hd0 hd;rw[b0q,b3o,b3E,b5V];rcases hr:x.walk b4h d s with⟨s1,b1⟩;rw[hr] at a0;obtain⟨a1,a2,a3,a4⟩:=a0;try dsimp only at a1 a2 a3 a4
  cases b1 with
  | false =>
   rw[b1W];refine⟨⟨⟨fun h=>absurd h Bool.false_ne_true,fun⟨h1,h2⟩=>?_⟩,fun h=>absurd h Bool.false_ne_true,a3,a4⟩,a5,fun s2 he=>by injection he with _ he;cases he⟩;rw[Bool.and_eq_true] at h1;exact absurd (a1.2 ⟨h1.1,by omega⟩) (by decide)
  | true =>
   obtain⟨c1,c2⟩:=a1.1 rfl;obtain rfl:=a2 rfl;rw[b1W];obtain⟨⟨b1,b2,b3,b4⟩,b5⟩:=b5I (l:=xs) (fun y hy=>h y (List.mem_cons_of_mem _ hy)) d (s+x.cnt) (by omega) (by omega) hd0 hd;refine⟨⟨?_,fun h=>by rw[b2 h];omega,by omega,b4⟩,a5,fun s2 he=>by injection he with he _;subst he;exact b5⟩;rw[b1,c1,Bool.true_and];refine and_congr Iff.rfl ?_;omega
theorem c1W:∀x:PC,∀d s:Int,0≤s→s≤40→0≤d→d≤6→c1N (decide (d≤5) && x.fine d) (s+x.cnt) s (x.walk b4h d s)∧x.okw b4h OkM d s:=
 PC.ind2 fun x ih1 ih2 d s hs hs2 hd0 hd=>by
  rw[PC.walk_eq,PC.cnt_eq,PC.fine_eq,PC.okw_eq];have hok:OkM x d s:=⟨by omega,by omega,by omega,by omega⟩;by_cases hb:s+1≤40∧d≤5
  ·have e0:b4h s x d=(s+1,true):=by unfold b4h;rw[decide_eq_true hb.1,decide_eq_true hb.2];rfl
   rw[e0,b1W,decide_eq_true hb.2,Bool.true_and];obtain⟨a0,a5⟩:=b5I ih1 (d+1) (s+1) (by omega) (by omega) (by omega) (by omega);rcases hr:b0q b4h x.thn (d+1) (s+1) with⟨s1,b1⟩;rw[hr] at a0;obtain⟨a1,a2,a3,a4⟩:=a0;try dsimp only at a1 a2 a3 a4
   cases b1 with
   | false =>
    rw[b1W];refine⟨⟨⟨fun h=>absurd h Bool.false_ne_true,fun⟨h1,h2⟩=>?_⟩,fun h=>absurd h Bool.false_ne_true,by omega,a4⟩,hok,fun s2 he=>?_⟩
    ·rw[Bool.and_eq_true] at h1;exact absurd (a1.2 ⟨h1.1,by omega⟩) (by decide)
    ·injection he with he _;subst he;exact⟨a5,fun s3 he=>by rw[hr] at he;injection he with _ he;cases he⟩
   | true =>
    obtain⟨c1,c2⟩:=a1.1 rfl;obtain rfl:=a2 rfl;rw[b1W];obtain⟨⟨b1,b2,b3,b4⟩,b5⟩:=b5I ih2 (d+1) (s+1+b0r x.thn) (by omega) (by omega) (by omega) (by omega);refine⟨⟨?_,fun h=>by rw[b2 h];omega,by omega,b4⟩,hok,fun s2 he=>?_⟩
    ·rw[b1,c1,Bool.true_and];refine and_congr Iff.rfl ?_;omega
    ·injection he with he _;subst he;exact⟨a5,fun s3 he=>by rw[hr] at he;injection he with he _;subst he;exact b5⟩
  ·have e0:b4h s x d=(s+1,false):=by
    unfold b4h
    congr 1
    rw[Bool.and_eq_false_iff];by_cases h40:s+1≤40
    ·exact Or.inr (decide_eq_false fun h5=>hb ⟨h40,h5⟩)
    ·exact Or.inl (decide_eq_false h40)
   rw[e0,b1W];refine⟨⟨⟨fun h=>absurd h Bool.false_ne_true,fun⟨h1,h2⟩=>?_⟩,fun h=>absurd h Bool.false_ne_true,by omega,by omega⟩,hok,fun s2 he=>by injection he with _ he;cases he⟩;rw[Bool.and_eq_true] at h1;have:=of_decide_eq_true h1.1;omega
theorem c0P(l:List PC)(d s:Int):0≤s→s≤40→0≤d→d≤6→c1N (b1P l d) (s+b0r l) s (b0q b4h l d s)∧b3o b4h OkM l d s:=b5I (fun x _=>c1W x) d s
def b9P(pms z:List Int)(calls:Int)(_:Int)(x:PC)(_:Int):Int×Bool:=(x.own pms z calls,decide (x.own pms z calls=0))
theorem PC.err_eq(pms z:List Int)(calls:Int)(x:PC):x.err pms z calls=orE (x.own pms z calls) (orE (b1U pms z calls x.thn) (b1U pms z calls x.els)):=by
 obtain⟨k,v,g,i,e,args,thn,els⟩:=x;rw[PC.err];rfl
def Ok0(_:PC)(d s:Int):Prop:=s=0∧0≤d∧d≤6
theorem c4W(b:Int):orE 0 b=b:=by unfold orE;rw[if_pos rfl]
theorem c4X{a:Int}(h:a≠0)(b:Int):orE a b=a:=by unfold orE;rw[if_neg h]
theorem b5H{pms z:List Int}{calls:Int}:∀{l:List PC},(∀x∈l,∀d,x.fine d=true→0≤d→d≤5→x.walk (b9P pms z calls) d 0=(x.err pms z calls,decide (x.err pms z calls=0))∧x.okw (b9P pms z calls) Ok0 d 0)→∀d,b1P l d=true→0≤d→b0q (b9P pms z calls) l d 0=(b1U pms z calls l,decide (b1U pms z calls l=0))∧b3o (b9P pms z calls) Ok0 l d 0
 | [],_,d,_,_=>by rw[b0q,b3o,b1U];exact⟨rfl,trivial⟩
 | x::xs,h,d,hf,hd0=>by
  obtain⟨f1,f2,f3⟩:=b3l hf;obtain⟨a1,a2⟩:=h x (by simp) d f2 hd0 f1;rw[b0q,b3o,b1U,a1];by_cases h0:x.err pms z calls=0
  ·obtain⟨b1,b2⟩:=b5H (fun y hy=>h y (by simp[hy])) d f3 hd0;rw[h0,c4W,decide_eq_true rfl,b1W];exact⟨b1,a2,fun s1 he=>by injection he with he _;subst he;exact b2⟩
  ·rw[c4X h0,decide_eq_false h0,b1W];exact⟨rfl,a2,fun s1 he=>by injection he with _ he;cases he⟩
theorem c1V(pms z:List Int)(calls:Int):∀x:PC,∀d,x.fine d=true→0≤d→d≤5→x.walk (b9P pms z calls) d 0=(x.err pms z calls,decide (x.err pms z calls=0))∧x.okw (b9P pms z calls) Ok0 d 0:=
 PC.ind2 fun x ih1 ih2 d hf hd0 hd=>by
  obtain⟨f1,f2⟩:=PC.fine_in hf;rw[PC.walk_eq,PC.err_eq,PC.okw_eq,b9P];obtain⟨a1,a2⟩:=b5H ih1 (d+1) f1 (by omega);obtain⟨b1,b2⟩:=b5H ih2 (d+1) f2 (by omega);have hok:Ok0 x d 0:=⟨rfl,by omega,by omega⟩;by_cases h0:x.own pms z calls=0
  ·rw[h0,c4W,decide_eq_true rfl,b1W,a1];by_cases h1:b1U pms z calls x.thn=0
   ·rw[h1,c4W,decide_eq_true rfl,b1W]
    exact⟨b1,hok,fun s1 he=>by
     injection he with he _;subst he;exact⟨a2,fun s2 he=>by rw[a1] at he;injection he with he _;subst he;rw[h1];exact b2⟩⟩
   ·rw[c4X h1,decide_eq_false h1,b1W]
    exact⟨rfl,hok,fun s1 he=>by
     injection he with he _;subst he;exact⟨a2,fun s2 he=>by rw[a1] at he;injection he with _ he;exact absurd (of_decide_eq_true he) h1⟩⟩
  ·rw[c4X h0,decide_eq_false h0,b1W];exact⟨rfl,hok,fun s1 he=>by injection he with _ he;cases he⟩
theorem b7U(pms z:List Int)(calls:Int)(l:List PC)(d:Int):b1P l d=true→0≤d→b0q (b9P pms z calls) l d 0=(b1U pms z calls l,decide (b1U pms z calls l=0))∧b3o (b9P pms z calls) Ok0 l d 0:=b5H (fun x _=>c1V pms z calls x) d
end Go.Proofs.Ytgkpplbomciehaa
