/- The document counts commands at every depth, and says whether there is too much: walked. Each lemma states its own conditions. -/
import Derived.Test.YtmfjlcpjemccmaaGreatDoorSbk17
namespace Go.Proofs.YtmfjlcpjemccmaaGreatDoor
set_option maxRecDepth 20000
set_option maxHeartbeats 4000000
open Go.RowKit
theorem c3H(A:Option Addr)(c:Nat)(d:Int)(w:World):Calls Tryz.prog 81 #[.slice A 0 c,.int .i64 d] w fun r w'=>r=.returned (.int .i64 0)∧Bel w w':=by
 have HRF:=Hi_ (Bel.rfl_ w);go_enter Tryz.func81,Tryz.ntmps81;go_wp2;go_loopw [5,6] (fun a i wr=>a=.int .i64 0∧i=.int .i64 0∧Hid (Bel w wr)) (fun _ _ _=>0)
 case atStart=>exact⟨rfl,rfl,HRF⟩
 case round =>
  obtain⟨rfl,rfl,HB⟩:=hrel;go_wp2;go_ret;exact⟨rfl,HB.out⟩
theorem c1a(l:List TC)(v:Value)(w:World)(h:Sl tcR w v l):Calls Tryz.prog 81 #[v,.int .i64 6] w fun r w'=>r=.returned (.int .i64 (b6S l 6))∧Bel w w':=by
 obtain⟨A,c,rfl,hc,hm,-⟩:=h;by_cases h0:l.length=0
 ·obtain rfl:=List.eq_nil_of_length_eq_zero h0;exact c3H A c 6 w
 ·have hT:Hid ((41:Int)=b6S l 6):=Hi_ (by
   cases l with
   | nil=>exact absurd rfl h0
   | cons x xs=>unfold b6S;rw[b1H,decide_eq_false (by decide)];rfl)
  have hl0:decide (0<l.length)=true:=decide_eq_true (by omega);have hl1:0<l.length:=by omega
  have hll:l.length≤9223372036854775807:=by have:=hm.1;simp only[maxLen] at this;omega
  clear hc hm h0;go_enter Tryz.func81,Tryz.ntmps81;go_wp2;go_ret;exact⟨by rw[hT.out];rfl,Bel.rfl_ w⟩
theorem b9L:∀(n:Nat) (d:Int),d+n=6→1≤d→∀(l:List TC) (v:Value) (w:World),Sl tcR w v l→Calls Tryz.prog 81 #[v,.int .i64 d] w fun r w'=>r=.returned (.int .i64 (b6S l d))∧Bel w w'
 | 0,d,hd,_,l,v,w,h=>by
  obtain rfl:d=6:=by omega
  exact c1a l v w h
 | n+1,d,hd,h1,l,v,w,h=>c1b l d v w h h1 (by omega) (b9L n (d+1) (by omega) (by omega))
theorem c7H{w:World}{A:Option Addr}{n c:Nat}{xs:List TF}(h:Sl tfR w (.slice A n c) xs){k:Nat}{x:TF}(hk:xs[k]? = some x) :
  ∃b o cs,A=some ⟨b,o,none⟩∧TFR w x cs∧b0x w b (o+k*10) cs:=by
 obtain⟨A',c',hv,-,-,h4⟩:=h;injection hv with hv;subst hv;obtain⟨b,o,rfl,h5⟩:=h4 (by have:=(List.getElem?_eq_some_iff.1 hk).1;omega);obtain⟨cs,h6,h7⟩:=h5 k x hk;exact⟨b,o,cs,rfl,h6,h7⟩
theorem c5o{ops:Array Oper}{rest:List Oper}{o1 o2 o3:Oper}{a:Act}{w:World}{Q:Exit→Act→World→Prop}(x y z:Operand)(hg1:o1.guard=none)(hg2:o2.guard=none)(hg3:o3.guard=none)
  (ho1:o1.op=.load 51 x) (ho2:o2.op=.alloc 51) (ho3:o3.op=.store 51 y z) (b o:Nat) (hx:a.eval x=.pointer (some ⟨b,o,none⟩)) (cs:List Value) (hc:b0x w b o cs) {c:TF} (hr:TFR w c cs)
  (hy:((a.put o1.dst (.agg cs.toArray)).put o2.dst (.pointer (some ⟨w.heap.size,0,none⟩))).eval y=.pointer (some ⟨w.heap.size,0,none⟩))
  (hz:((a.put o1.dst (.agg cs.toArray)).put o2.dst (.pointer (some ⟨w.heap.size,0,none⟩))).eval z=.agg cs.toArray)
  (h:wpList Tryz.prog ops Q rest (((a.put o1.dst (.agg cs.toArray)).put o2.dst (.pointer (some ⟨w.heap.size,0,none⟩))).put o3.dst undef) (w.alloc (.cells cs.toArray 51))):wpList Tryz.prog ops Q (o1::o2::o3::rest) a w:=by
 obtain⟨d,hu,hd⟩:=c8r;exact b7e _ x y z hg1 hg2 hg3 ho1 ho2 ho3 b o hx cs hc b5Q d hu hd (tfR.len hr) (b4O hr) hy hz h
def b6T:List TF→Int→Bool
 | [],n=>decide (40<n)
 | f::l,n=>f.big || b6T l (n+b6S f.cmds 1)
theorem b7s{l:List TF}{k:Nat}{x:TF}(hx:l[k]? = some x)(n:Int):b6T (l.drop k) n=(x.big || b6T (l.drop (k+1)) (n+b6S x.cmds 1)):=by
 obtain⟨hl,rfl⟩:=List.getElem?_eq_some_iff.1 hx;rw[List.drop_eq_getElem_cons hl,b6T]
theorem c3e{l:List TF}{k:Nat}(h:l.length≤k)(n:Int):b6T (l.drop k) n=decide (40<n):=by rw[List.drop_eq_nil_of_le h,b6T]
theorem c1F:∀(l:List TF) (n:Nat),b6T l n=(l.any TF.big || !l.all (fun f=>b1H f.cmds 1) || decide (40<n+(l.map fun f=>b1S f.cmds).sum))
 | [],n=>by
  rw[b6T];simp;omega
 | f::l,n=>by
  have h1:=fun m=>c1F l m;rw[b6T,List.any_cons,List.all_cons,List.map_cons,List.sum_cons];unfold b6S;cases hb:f.big with
  | true=>simp
  | false =>
   cases hf:b1H f.cmds 1 with
   | true =>
    rw[if_pos rfl,show(n:Int)+min 41 (b1S f.cmds:Int)=((n+min 41 (b1S f.cmds):Nat):Int) by omega,h1];simp only[Bool.false_or,Bool.true_and]
    congr 1
    exact decide_eq_decide.2 (by omega)
   | false =>
    rw[if_neg (by decide),show(n:Int)+41=((n+41:Nat):Int) by omega,h1];simp;omega
theorem b9n(l:List TF)(v:Value)(w:World)(h:Sl tfR w v l):Calls Tryz.prog 36 #[.agg #[v]] w fun r w'=>r=.returned (.bool (many l))∧Bel w w':=by
 have HSL:=Hi_ h;have HP:=Hi_ (fun(e:TE) (val:Value) W (he:TEV W e val)=>b7T e 15 val W (by decide) (by decide) he);have HC:=Hi_ (fun(l:List TC) (v:Value) W (h:Sl tcR W v l)=>b9L 5 1 (by decide) (by decide) l v W h);obtain⟨A,c,rfl,hc,hm,-⟩:=h;have hll:l.length≤9223372036854775807:=by have:=hm.1;simp only[maxLen] at this;omega
 have HQ:=Hi_ (Blk.new w 24 #[.slice A l.length c]);have HB0:=Hi_ ((Bel.rfl_ w).al (.cells #[.slice A l.length c] 24));clear hc hm;by_cases h6:6<l.length
 ·have d6:decide ((6:Int)<l.length)=true:=decide_eq_true (by omega);have hT:Hid (true=many l):=Hi_ (by unfold many;rw[decide_eq_true h6];rfl);go_enter Tryz.func36,Tryz.ntmps36;go_wp2;go_ret;exact⟨by rw[hT.out];rfl,HB0.out⟩
 ·have d6:decide ((6:Int)<l.length)=false:=decide_eq_false (by omega);have d6':¬6<l.length:=h6;have HT:Hid (b6T (l.drop 0) 0=many l):=Hi_ (by unfold many c1s;rw[decide_eq_false h6];exact(c1F l 0).trans (by simp));generalize many l=T at *;go_enter Tryz.func36,Tryz.ntmps36;go_upto_region 1 with fail;generalize w.alloc (.cells #[.slice A l.length c] 24)=W0 at *;generalize w.heap.size=P at *;have c0:=HQ.out.cell (i:=0) (v:=.slice A l.length c) rfl;go_wp2;clear c0 d6 d6';go_loopw [3,4] (fun a i wr=>∃(j:Nat) (n:Int),a=.int .i64 n∧i=.int .i64 j∧j≤l.length∧0≤n∧n≤41*j∧Hid (b6T (l.drop j) n=T)∧Hid (Bel w wr)∧Hid (Blk wr P 24 #[.slice A l.length c])) (fun _ i _=>l.length-(intOf i).toNat)
  case atStart=>exact⟨0,0,rfl,rfl,Nat.zero_le _,by decide,by decide,HT,HB0,HQ⟩
  case round =>
   obtain⟨j,n,rfl,rfl,hj,hn0,hn1,HS,HB,HQ⟩:=hrel;obtain⟨WO,hWO⟩:∃W,W=wr:=⟨_,rfl⟩;subst hWO;clear HT HB0;have c0:=HQ.out.cell (i:=0) (v:=.slice A l.length c) rfl;by_cases hlt:j<l.length
   ·have hdd:decide ((j:Int)<l.length)=true:=decide_eq_true (by omega);obtain⟨x,hx⟩:∃x,l[j]? = some x:=⟨_,List.getElem?_eq_getElem hlt⟩;obtain⟨b,o,cs,rfl,hcs,hca⟩:=c7H (HSL.out.keep HB.out) hx;have HS2:=Hi_ (fun(h:x.big=false)=>(show b6T (l.drop (j+1)) (n+b6S x.cmds 1)=T by rw[←HS.out,b7s hx,h];rfl));have HBAD:=Hi_ (fun(h:x.big=true)=>(show true=T by rw[←HS.out,b7s hx,h];rfl));have i0:(0:Int)≤j:=by omega
    have i1:(j:Int)<l.length:=by omega
    have HCS:=Hi_ hcs;have HCA:=Hi_ hca;clear hcs hca hx HS;go_upto_region 8 with(refine c5o (.tmp 20) (.tmp 5) (.tmp 21) rfl rfl rfl rfl rfl rfl b (o+j*10) (by exact rfl) cs HCA.out HCS.out (by exact rfl) (by exact rfl) ?_);clear c0;have HBW:=Hi_ ((Bel.rfl_ WO).al (.cells cs.toArray 51));have HK:=Hi_ (Blk.new WO 51 cs.toArray);obtain⟨vp,vv,vc,vr,rfl,-,hrn,hsp,hsv,hsc,hsr⟩:=HCS.out;clear HCS HCA;generalize hW1:WO.alloc _=W1 at *;clear hW1;generalize WO.heap.size=G at *;have HRV:Hid (∀W,Bel WO W→TEV W x.result (.agg #[.int .i64 x.result.kind,.int .i64 x.result.at_,.int .i64 x.result.n,.string x.result.name,vr])):=Hi_ fun W hb=>⟨_,rfl,hrn,hsr.keep hb⟩;have HCC:=Hi_ (fun W hb=>HC.out x.cmds vc W (hsc.keep hb));obtain⟨Ap,cp,rfl,-⟩:=hsp;obtain⟨Av,cv,rfl,-⟩:=hsv;obtain⟨Ac,cc,rfl,-⟩:=hsc;obtain⟨Ar,cr,rfl,-⟩:=hsr;have hcN:=b9s (l:=x.cmds) (d:=1);have HBG:Hid (x.big=(decide (3<x.params.length) || decide (6<x.vars.length) || x.result.great)):=Hi_ rfl;generalize x.result.kind=rk at *;generalize x.result.at_=ra at *;generalize x.result.n=rn at *;generalize x.result.name=rs at *;have p2:=HK.out.cell (i:=2) (v:=.slice Ap x.params.length cp) rfl;by_cases hp:3<x.params.length
    ·have dp:decide ((3:Int)<x.params.length)=true:=decide_eq_true (by omega);have HR:Hid (true=T):=Hi_ (HBAD.out (by rw[HBG.out,decide_eq_true hp];rfl));go_wp2;go_ret;exact⟨by rw[HR.out];rfl,HB.out.tr HBW.out⟩
    have dp:decide ((3:Int)<x.params.length)=false:=decide_eq_false (by omega);rw[decide_eq_false hp,Bool.false_or] at HBG;have p3:=HK.out.cell (i:=3) (v:=.slice Av x.vars.length cv) rfl;by_cases hv:6<x.vars.length
    ·have dv:decide ((6:Int)<x.vars.length)=true:=decide_eq_true (by omega);have HR:Hid (true=T):=Hi_ (HBAD.out (by rw[HBG.out,decide_eq_true hv];rfl));go_wp2;go_ret;exact⟨by rw[HR.out];rfl,HB.out.tr HBW.out⟩
    have dv:decide ((6:Int)<x.vars.length)=false:=decide_eq_false (by omega);rw[decide_eq_false hv,Bool.false_or] at HBG;have p5:=HK.out.cell (i:=5) (v:=.int .i64 rk) rfl;have p6:=HK.out.cell (i:=6) (v:=.int .i64 ra) rfl;have p7:=HK.out.cell (i:=7) (v:=.int .i64 rn) rfl;have p8:=HK.out.cell (i:=8) (v:=.string rs) rfl;have p9:=HK.out.cell (i:=9) (v:=.slice Ar x.result.args.length cr) rfl;go_wp2_with fail
    refine(HP.out x.result _ _ (HRV.out _ HBW.out)).mono ?_;rintro r W2 ⟨rfl,hb2⟩;replace HBW:=Hi_ (HBW.out.tr hb2);replace HK:=Hi_ (HK.out.keep hb2);clear hb2 p2 p3 p5 p6 p7 p8 p9 hp hv;by_cases ge:15<x.result.size 15
    ·have de:decide (15<x.result.size 15)=true:=decide_eq_true ge;have HR:Hid (true=T):=Hi_ (HBAD.out (by rw[HBG.out,b5Y ge]));go_wp2;go_ret;exact⟨by rw[HR.out];rfl,HB.out.tr HBW.out⟩
    have de:decide (15<x.result.size 15)=false:=decide_eq_false ge;have de':x.result.size 15≤15:=by omega
    replace HS2:=Hi_ (HS2.out (by rw[HBG.out,b6e ge]));have p4:=HK.out.cell (i:=4) (v:=.slice Ac x.cmds.length cc) rfl;go_wp2_with fail
    refine(HCC.out _ HBW.out).mono ?_;rintro r W3 ⟨rfl,hb3⟩;replace HBW:=Hi_ (HBW.out.tr hb3);have HQ2:=Hi_ (HQ.out.keep HBW.out);clear hb3 p4 HBG HBAD;generalize b6S x.cmds 1=m at *;go_wp2;go_roundw
    case rel=>exact⟨j+1,n+m,by go_num,by go_num,by omega,by omega,by omega,HS2,HB.out.tr HBW.out,HQ2⟩
    case measure=>simp[intOf];omega
   ·have hdd:decide ((j:Int)<l.length)=false:=decide_eq_false (by omega);have HR:Hid (decide (40<n)=T):=Hi_ (by rw[←HS.out,c3e (by omega)]);go_wp2;go_ret;exact⟨by rw[←HR.out];rfl,HB.out⟩
theorem Bel.row{w W:World}(h:Bel w W){G:Nat}(hG:w.heap.size≤G)(cs:Array Value):Bel w (W.setRow G cs):=
 ⟨h.os,h.tape,h.output,by rw[setRow_size];exact h.size,fun k hk=>(setRow_other W G k cs (by omega)).trans (h.block k hk)⟩
theorem Blk.row_same{W:World}{G:Nat}{t:TypeId}{old:Array Value}(h:Blk W G t old)(cs:Array Value):Blk (W.setRow G cs) G t cs:=setRow_heap W G old cs t (0,0) h
section
variable {P:Program}{ops:Array Oper}{o:Oper}{a:Act}{w:World}{K:Act→World→Prop}{Q:Exit→Act→World→Prop}{E:Prop}
theorem c4Q(d:Option Tmp)(hd:o.dst=d)(ty:TypeId)(x y:Operand)(hg:o.guard=none)(ho:o.op=.store ty x y){t:TypeId}{size bytes:Nat}(El:Elem P t ty size bytes)(g:Nat)(cs:List Value)(hx:a.eval x=.pointer (some ⟨g,0,none⟩))(hy:a.eval y=.agg cs.toArray)
  {old:Array Value} (hb:Blk w g ty old) (hold:old.size=size) (hl:cs.length=size) (hone:∀u∈cs,u.oneCell'=true)
  (h:K (a.put d undef) (w.setRow g cs.toArray)):if Region.wanted o (yielded ops a.tmps)=true then Oper.wp P o a w K Q else E:=by
 subst hd;obtain⟨i,zv,hi,hz0,hz1,hz2,hz3⟩:=El.inf;have hw:Region.wanted o (yielded ops a.tmps)=true:=by simp[Region.wanted,hg]
 rw[if_pos hw];exact wp_store_row ty x y ho g cs.toArray hx hy ty old hb (by rw[hi,Option.map_some,hz1];simp[hl]) (by simp[hold,hl]) (all_oneCell_toArray hone) h
end
section
variable {P:Program}{md:Region.Mode}{ops:Array Oper}{Q:Exit→Act→World→Prop}{S:World→Prop}{fuel:Nat}{listed:Array Bool}{a:Act}{w:World}{i j:Nat}
def c2o(P:Program)(md:Region.Mode)(ops:Array Oper)(Q:Exit→Act→World→Prop)(S:World→Prop)(fuel:Nat)(listed:Array Bool)(a:Act)(w:World)(i:Nat):Prop:=
 wpOp P ops Q i (fun a' w'=>S w'∧wpAnyH P md ops Q S fuel (listed.setIfInBounds i true) a' w') a w
theorem c5u(hr:Region.ready md ops listed=[i,j])(h:c2o P md ops Q S fuel listed a w i)(h':c2o P md ops Q S fuel listed a w j):wpAnyH P md ops Q S (fuel+1) listed a w:=
 wpAnyH_all hr (by simp) fun k hk=>by
  rcases List.mem_cons.1 hk with rfl | hk
  ·exact h
  ·obtain rfl:k=j:=by simpa using hk
   exact h'
end
theorem b0B{P:Program}{o:Oper}{ρ:Operand→Value}{W:World}(ty:TypeId)(x:Operand)(ho:o.op=.load ty x){t:TypeId}{size bytes:Nat}(El:Elem P t ty size bytes)(b f:Nat)(hx:ρ x=.pointer (some ⟨b,f,none⟩))(cs:List Value)(hc:b0x W b f cs)(hl:cs.length=size)
  (hd:(P.underlying ty).map (·.isRow)=some true):(execOp ρ o).run P W=.ok (.value (.agg cs.toArray)) W:=by
 obtain⟨i,zv,hi,hz0,hz1,hz2,hz3⟩:=El.inf;obtain⟨d,hu,hd⟩:=c4R hd;unfold execOp;simp only[ho,hx,Instr.loadAt,Instr.sureAddr,Sem.run_bind,Sem.run_pure,Result.andThen_ok,run_loadVar_mid W b f ty cs d hc hu hd (by rw[hi,Option.map_some,hz1,hl])]
theorem c8A{l:List TE}(h:l.length=2):∃x y,l=[x,y]:=by
 match l,h with
 | [x,y],_=>exact⟨x,y,rfl⟩
theorem c0j{l:List TE}(h:l.length=0):l.all TE.ok=true:=by
 rw[List.eq_nil_of_length_eq_zero h];rfl
theorem c7j{e:TE}(h:e.kind=1):e.ok=(decide (e.name=emp) && (decide (e.args.length=0) && decide (-9999999≤e.n∧e.n≤9999999))):=by
 rw[TE.ok_eq,h,if_neg (by decide),if_pos rfl,show b1p 1=0 from rfl];by_cases hl:e.args.length=0
 ·rw[c0j hl,hl];simp
 ·have:¬(0:Int)=(e.args.length:Int):=by omega
  rw[decide_eq_false this,decide_eq_false hl];simp
theorem c7k{e:TE}(h:e.kind=2):e.ok=(decide (e.n=0) && (decide (e.args.length=0) && b0H e.name)):=by
 rw[TE.ok_eq,h,if_pos (Or.inl rfl),if_neg (by decide),show b1p 2=0 from rfl];by_cases hl:e.args.length=0
 ·rw[c0j hl,hl];cases b0H e.name<;>cases decide (e.n=0)<;>rfl
 ·have:¬(0:Int)=(e.args.length:Int):=by omega
  rw[decide_eq_false this,decide_eq_false hl];simp
theorem c5T{e:TE}(h:e.kind=3):e.ok=(decide (e.n=0) && (decide (e.args.length=1) && (b0H e.name && e.args.all TE.ok))):=by
 rw[TE.ok_eq,h,if_pos (Or.inr rfl),if_neg (by decide),show b1p 3=1 from rfl];by_cases hl:e.args.length=1
 ·rw[hl];cases b0H e.name<;>cases decide (e.n=0)<;>cases e.args.all TE.ok<;>rfl
 ·have:¬(1:Int)=(e.args.length:Int):=by omega
  rw[decide_eq_false this,decide_eq_false hl];simp
theorem c8W{e:TE}(h:4≤e.kind∧e.kind≤10):e.ok=(decide (e.n=0) && (decide (e.name=emp) && (decide (e.args.length=2) && e.args.all TE.ok))):=by
 have ha:b1p e.kind=2:=by
  unfold b1p;rw[if_neg (by omega),if_neg (by omega),if_neg (by omega)]
 rw[TE.ok_eq,if_neg (by omega),if_neg (by omega),ha];by_cases hl:e.args.length=2
 ·rw[hl];cases decide (e.name=emp)<;>cases decide (e.n=0)<;>cases e.args.all TE.ok<;>rfl
 ·have:¬(2:Int)=(e.args.length:Int):=by omega
  rw[decide_eq_false this,decide_eq_false hl];simp
theorem c6d{e:TE}(h:e.kind<1∨10<e.kind):e.ok=false:=by
 have ha:b1p e.kind=-1:=by
  unfold b1p;rw[if_pos h]
 rw[TE.ok_eq,ha];have:¬(-1:Int)=(e.args.length:Int):=by omega
 rw[decide_eq_false this];rfl
theorem c0C(e:TE)(IH:∀x∈e.args,∀(val:Value) (W:World),TEV W x val→Calls Tryz.prog 38 #[val] W fun r w'=>r=.returned (.bool x.ok)∧Bel W w')
  (val:Value) (w:World) (h:TEV w e val):Calls Tryz.prog 38 #[val] w fun r w'=>r=.returned (.bool e.ok)∧Bel w w':=by
 obtain⟨v,rfl,hnm,A,c,rfl,hc,hm,hA⟩:=h;have HI:=Hi_ IH;have HA:=Hi_ hA;have hlm:e.args.length≤9223372036854775807:=by have:=hm.1;simp only[maxLen] at this;omega
 have HIS:=Hi_ (fun W=>b2M e.name W hnm);have HBK:=Hi_ (fun W=>b3U e.kind 4 10 W);have HBN:=Hi_ (fun W=>b3U e.n (-9999999) 9999999 W);have HB:=Hi_ ((Bel.rfl_ w).al (.cells #[.int .i64 e.kind,.int .i64 e.at_,.int .i64 e.n,.string e.name,.slice A e.args.length c] 49));have HQ:=Hi_ (Blk.new w 49 #[.int .i64 e.kind,.int .i64 e.at_,.int .i64 e.n,.string e.name,.slice A e.args.length c]);clear IH hA hm hnm;by_cases k1:e.kind=1
 ·have HT:=Hi_ (c7j k1);have t1:(e.kind==1)=true:=by simpa using k1
  by_cases hs_:e.name=emp
  ·have ds:(e.name.toList==[])=true:=b0g hs_;rw[decide_eq_true hs_,Bool.true_and] at HT;by_cases hl_:e.args.length=0
   ·have dl:((e.args.length:Int)==0)=true:=by rw[hl_];rfl
    rw[decide_eq_true hl_,Bool.true_and] at HT;clear k1 hs_ hl_;go_enter Tryz.func38,Tryz.ntmps38;go_upto_region 1 with fail;generalize w.alloc (.cells #[.int .i64 e.kind,.int .i64 e.at_,.int .i64 e.n,.string e.name,.slice A e.args.length c] 49)=W0 at *;generalize w.heap.size=G at *;have c0:=HQ.out.cell (i:=0) (v:=.int .i64 e.kind) rfl;have c2:=HQ.out.cell (i:=2) (v:=.int .i64 e.n) rfl;have c3:=HQ.out.cell (i:=3) (v:=.string e.name) rfl;have c4:=HQ.out.cell (i:=4) (v:=.slice A e.args.length c) rfl;clear HI HA HIS HBK;generalize decide (-9999999≤e.n∧e.n≤9999999)=b at *;go_wp2_with fail
    refine(HBN.out _).mono ?_;rintro r w1 ⟨rfl,rfl⟩;go_wp2;go_ret;exact⟨by first | (rw[HT.out];rfl) | rfl,HB.out⟩
   ·have dl:((e.args.length:Int)==0)=false:=by rw[beq_eq_false_iff_ne];omega
    rw[decide_eq_false hl_,Bool.false_and] at HT;clear k1 hs_ hl_;go_enter Tryz.func38,Tryz.ntmps38;go_upto_region 1 with fail;generalize w.alloc (.cells #[.int .i64 e.kind,.int .i64 e.at_,.int .i64 e.n,.string e.name,.slice A e.args.length c] 49)=W0 at *;generalize w.heap.size=G at *;have c0:=HQ.out.cell (i:=0) (v:=.int .i64 e.kind) rfl;have c2:=HQ.out.cell (i:=2) (v:=.int .i64 e.n) rfl;have c3:=HQ.out.cell (i:=3) (v:=.string e.name) rfl;have c4:=HQ.out.cell (i:=4) (v:=.slice A e.args.length c) rfl;clear HI HA HIS HBN HBK;go_wp2;go_ret;exact⟨by first | (rw[HT.out];rfl) | rfl,HB.out⟩
  ·have ds:(e.name.toList==[])=false:=b0L hs_;rw[decide_eq_false hs_,Bool.false_and] at HT;clear k1 hs_;go_enter Tryz.func38,Tryz.ntmps38;go_upto_region 1 with fail;generalize w.alloc (.cells #[.int .i64 e.kind,.int .i64 e.at_,.int .i64 e.n,.string e.name,.slice A e.args.length c] 49)=W0 at *;generalize w.heap.size=G at *;have c0:=HQ.out.cell (i:=0) (v:=.int .i64 e.kind) rfl;have c2:=HQ.out.cell (i:=2) (v:=.int .i64 e.n) rfl;have c3:=HQ.out.cell (i:=3) (v:=.string e.name) rfl;have c4:=HQ.out.cell (i:=4) (v:=.slice A e.args.length c) rfl;clear HI HA HIS HBN HBK;go_wp2;go_ret;exact⟨by first | (rw[HT.out];rfl) | rfl,HB.out⟩
 by_cases k2:e.kind=2
 ·have HT:=Hi_ (c7k k2);have t1:(e.kind==1)=false:=by simpa using k1
  have t2:(e.kind==2)=true:=by simpa using k2
  by_cases hn_:e.n=0
  ·have dn:(e.n==0)=true:=by simpa using hn_
   rw[decide_eq_true hn_,Bool.true_and] at HT;by_cases hl_:e.args.length=0
   ·have dl:((e.args.length:Int)==0)=true:=by rw[hl_];rfl
    rw[decide_eq_true hl_,Bool.true_and] at HT;clear k1 k2 hn_ hl_;go_enter Tryz.func38,Tryz.ntmps38;go_upto_region 1 with fail;generalize w.alloc (.cells #[.int .i64 e.kind,.int .i64 e.at_,.int .i64 e.n,.string e.name,.slice A e.args.length c] 49)=W0 at *;generalize w.heap.size=G at *;have c0:=HQ.out.cell (i:=0) (v:=.int .i64 e.kind) rfl;have c2:=HQ.out.cell (i:=2) (v:=.int .i64 e.n) rfl;have c3:=HQ.out.cell (i:=3) (v:=.string e.name) rfl;have c4:=HQ.out.cell (i:=4) (v:=.slice A e.args.length c) rfl;clear HI HA HBN HBK;generalize b0H e.name=b at *;go_wp2_with fail
    refine(HIS.out _).mono ?_;rintro r w1 ⟨rfl,hb⟩;have HB1:=Hi_ (HB.out.tr hb);clear hb;go_wp2;go_ret;exact⟨by first | (rw[HT.out];rfl) | rfl,HB1.out⟩
   ·have dl:((e.args.length:Int)==0)=false:=by rw[beq_eq_false_iff_ne];omega
    rw[decide_eq_false hl_,Bool.false_and] at HT;clear k1 k2 hn_ hl_;go_enter Tryz.func38,Tryz.ntmps38;go_upto_region 1 with fail;generalize w.alloc (.cells #[.int .i64 e.kind,.int .i64 e.at_,.int .i64 e.n,.string e.name,.slice A e.args.length c] 49)=W0 at *;generalize w.heap.size=G at *;have c0:=HQ.out.cell (i:=0) (v:=.int .i64 e.kind) rfl;have c2:=HQ.out.cell (i:=2) (v:=.int .i64 e.n) rfl;have c3:=HQ.out.cell (i:=3) (v:=.string e.name) rfl;have c4:=HQ.out.cell (i:=4) (v:=.slice A e.args.length c) rfl;clear HI HA HIS HBN HBK;go_wp2;go_ret;exact⟨by first | (rw[HT.out];rfl) | rfl,HB.out⟩
  ·have dn:(e.n==0)=false:=by simpa using hn_
   rw[decide_eq_false hn_,Bool.false_and] at HT;clear k1 k2 hn_;go_enter Tryz.func38,Tryz.ntmps38;go_upto_region 1 with fail;generalize w.alloc (.cells #[.int .i64 e.kind,.int .i64 e.at_,.int .i64 e.n,.string e.name,.slice A e.args.length c] 49)=W0 at *;generalize w.heap.size=G at *;have c0:=HQ.out.cell (i:=0) (v:=.int .i64 e.kind) rfl;have c2:=HQ.out.cell (i:=2) (v:=.int .i64 e.n) rfl;have c3:=HQ.out.cell (i:=3) (v:=.string e.name) rfl;have c4:=HQ.out.cell (i:=4) (v:=.slice A e.args.length c) rfl;clear HI HA HIS HBN HBK;go_wp2;go_ret;exact⟨by first | (rw[HT.out];rfl) | rfl,HB.out⟩
 by_cases k3:e.kind=3
 ·have HT:=Hi_ (c5T k3);have t1:(e.kind==1)=false:=by simpa using k1
  have t2:(e.kind==2)=false:=by simpa using k2
  have t3:(e.kind==3)=true:=by simpa using k3
  by_cases hn_:e.n=0
  ·have dn:(e.n==0)=true:=by simpa using hn_
   rw[decide_eq_true hn_,Bool.true_and] at HT;by_cases hl_:e.args.length=1
   ·have dl:((e.args.length:Int)==1)=true:=by rw[hl_];rfl
    rw[decide_eq_true hl_,Bool.true_and] at HT;cases hi:b0H e.name with
    | false =>
     rw[hi,Bool.false_and] at HT;rw[hi] at HIS;clear hi k1 k2 k3 hn_ hl_;go_enter Tryz.func38,Tryz.ntmps38;go_upto_region 1 with fail;generalize w.alloc (.cells #[.int .i64 e.kind,.int .i64 e.at_,.int .i64 e.n,.string e.name,.slice A e.args.length c] 49)=W0 at *;generalize w.heap.size=G at *;have c0:=HQ.out.cell (i:=0) (v:=.int .i64 e.kind) rfl;have c2:=HQ.out.cell (i:=2) (v:=.int .i64 e.n) rfl;have c3:=HQ.out.cell (i:=3) (v:=.string e.name) rfl;have c4:=HQ.out.cell (i:=4) (v:=.slice A e.args.length c) rfl;clear HI HA HBN HBK;go_wp2_with fail
     refine(HIS.out _).mono ?_;rintro r w1 ⟨rfl,hb⟩;have HB1:=Hi_ (HB.out.tr hb);clear hb;go_wp2;go_ret;exact⟨by first | (rw[HT.out];rfl) | rfl,HB1.out⟩
    | true =>
     rw[hi,Bool.true_and] at HT;rw[hi] at HIS;obtain⟨x0,hx⟩:∃x,e.args=[x]:=List.length_eq_one_iff.1 hl_;obtain⟨b,o,rfl,hA⟩:=HA.out (by omega);obtain⟨B0,m0,cc0,hs0,hq0,y0,y1,y2,y3,y4⟩:=teR.cells hA (k:=0) (x:=x0) (by rw[hx];rfl);have HS0:=Hi_ hs0;have HI0:=Hi_ (HI.out x0 (by rw[hx];exact List.mem_singleton.2 rfl));have HT2:Hid (e.ok=x0.ok):=Hi_ (by rw[HT.out,hx];simp);have HQ0:=Hi_ hq0;clear HI HA hA hs0 hq0 HT hi HBN HBK k1 k2 k3 hn_ hx;rw[hl_] at hlm dl HB HQ ⊢;go_enter Tryz.func38,Tryz.ntmps38;go_upto_region 1 with fail;generalize w.alloc (.cells #[.int .i64 e.kind,.int .i64 e.at_,.int .i64 e.n,.string e.name,.slice (some ⟨b,o,none⟩) 1 c] 49)=W0 at *;generalize w.heap.size=G at *;have c0:=HQ.out.cell (i:=0) (v:=.int .i64 e.kind) rfl;have c2:=HQ.out.cell (i:=2) (v:=.int .i64 e.n) rfl;have c3:=HQ.out.cell (i:=3) (v:=.string e.name) rfl;have c4:=HQ.out.cell (i:=4) (v:=.slice (some ⟨b,o,none⟩) 1 c) rfl;go_wp2_with fail
     refine(HIS.out _).mono ?_;rintro r w1 ⟨rfl,hb⟩;have HB1:=Hi_ (HB.out.tr hb);replace HQ:=Hi_ (HQ.out.keep hb);clear hb c0 c2 c3 c4;have c4:=HQ.out.cell (i:=4) (v:=.slice (some ⟨b,o,none⟩) 1 c) rfl;have z0:w1.cell? ⟨b,o,none⟩=some (.int .i64 x0.kind):=by simpa using HB1.out.cell y0
     have z1:w1.cell? ⟨b,o+1,none⟩=some (.int .i64 x0.at_):=by simpa using HB1.out.cell y1
     have z2:w1.cell? ⟨b,o+2,none⟩=some (.int .i64 x0.n):=by simpa using HB1.out.cell y2
     have z3:w1.cell? ⟨b,o+3,none⟩=some (.string x0.name):=by simpa using HB1.out.cell y3
     have z4:w1.cell? ⟨b,o+4,none⟩=some (.slice B0 m0 cc0):=by simpa using HB1.out.cell y4
     have HV0:Hid (TEV w1 x0 (.agg #[.int .i64 x0.kind,.int .i64 x0.at_,.int .i64 x0.n,.string x0.name,.slice B0 m0 cc0])):=Hi_ ⟨_,rfl,HQ0.out,HS0.out.keep HB1.out⟩;clear y0 y1 y2 y3 y4 HIS;go_wp2_with fail
     refine(HI0.out _ _ HV0.out).mono ?_;rintro r w2 ⟨rfl,hb⟩;replace HB1:=Hi_ (HB1.out.tr hb);clear hb;go_wp2;go_ret;exact⟨by rw[HT2.out];rfl,HB1.out⟩
   ·have dl:((e.args.length:Int)==1)=false:=by rw[beq_eq_false_iff_ne];omega
    rw[decide_eq_false hl_,Bool.false_and] at HT;clear k1 k2 k3 hn_ hl_;go_enter Tryz.func38,Tryz.ntmps38;go_upto_region 1 with fail;generalize w.alloc (.cells #[.int .i64 e.kind,.int .i64 e.at_,.int .i64 e.n,.string e.name,.slice A e.args.length c] 49)=W0 at *;generalize w.heap.size=G at *;have c0:=HQ.out.cell (i:=0) (v:=.int .i64 e.kind) rfl;have c2:=HQ.out.cell (i:=2) (v:=.int .i64 e.n) rfl;have c3:=HQ.out.cell (i:=3) (v:=.string e.name) rfl;have c4:=HQ.out.cell (i:=4) (v:=.slice A e.args.length c) rfl;clear HI HA HIS HBN HBK;go_wp2;go_ret;exact⟨by first | (rw[HT.out];rfl) | rfl,HB.out⟩
  ·have dn:(e.n==0)=false:=by simpa using hn_
   rw[decide_eq_false hn_,Bool.false_and] at HT;clear k1 k2 k3 hn_;go_enter Tryz.func38,Tryz.ntmps38;go_upto_region 1 with fail;generalize w.alloc (.cells #[.int .i64 e.kind,.int .i64 e.at_,.int .i64 e.n,.string e.name,.slice A e.args.length c] 49)=W0 at *;generalize w.heap.size=G at *;have c0:=HQ.out.cell (i:=0) (v:=.int .i64 e.kind) rfl;have c2:=HQ.out.cell (i:=2) (v:=.int .i64 e.n) rfl;have c3:=HQ.out.cell (i:=3) (v:=.string e.name) rfl;have c4:=HQ.out.cell (i:=4) (v:=.slice A e.args.length c) rfl;clear HI HA HIS HBN HBK;go_wp2;go_ret;exact⟨by first | (rw[HT.out];rfl) | rfl,HB.out⟩
 have t1:(e.kind==1)=false:=by simpa using k1
 have t2:(e.kind==2)=false:=by simpa using k2
 have t3:(e.kind==3)=false:=by simpa using k3
 by_cases k4:4≤e.kind∧e.kind≤10
 ·have HT:=Hi_ (c8W k4);rw[decide_eq_true k4] at HBK;by_cases hn_:e.n=0
  ·have dn:(e.n==0)=true:=by simpa using hn_
   rw[decide_eq_true hn_,Bool.true_and] at HT;by_cases hs_:e.name=emp
   ·have ds:(e.name.toList==[])=true:=b0g hs_;rw[decide_eq_true hs_,Bool.true_and] at HT;by_cases hl_:e.args.length=2
    ·have dl:((e.args.length:Int)==2)=true:=by rw[hl_];rfl
     rw[decide_eq_true hl_,Bool.true_and] at HT;obtain⟨x0,x1,hx⟩:∃x y,e.args=[x,y]:=c8A hl_;obtain⟨b,o,rfl,hA⟩:=HA.out (by omega);obtain⟨B0,m0,cc0,hs0,hq0,y00,y01,y02,y03,y04⟩:=teR.cells hA (k:=0) (x:=x0) (by rw[hx];rfl);obtain⟨B1,m1,cc1,hs1,hq1,y10,y11,y12,y13,y14⟩:=teR.cells hA (k:=1) (x:=x1) (by rw[hx];rfl);have HI0:=Hi_ (HI.out x0 (by rw[hx];simp));have HI1:=Hi_ (HI.out x1 (by rw[hx];simp));have HT2:Hid (e.ok=(x0.ok && x1.ok)):=Hi_ (by rw[HT.out,hx];simp);have HVA:Hid (∀W,Bel w W→TEV W x0 (.agg #[.int .i64 x0.kind,.int .i64 x0.at_,.int .i64 x0.n,.string x0.name,.slice B0 m0 cc0])∧TEV W x1 (.agg #[.int .i64 x1.kind,.int .i64 x1.at_,.int .i64 x1.n,.string x1.name,.slice B1 m1 cc1])):=Hi_ fun W hb=>⟨⟨_,rfl,hq0,hs0.keep hb⟩,⟨_,rfl,hq1,hs1.keep hb⟩⟩;clear HI HA hA hs0 hq0 hs1 hq1 HT HBN HIS k1 k2 k3 k4 hn_ hs_ hx;rw[hl_] at hlm dl HB HQ ⊢;go_enter Tryz.func38,Tryz.ntmps38;go_upto_region 1 with fail;generalize w.alloc (.cells #[.int .i64 e.kind,.int .i64 e.at_,.int .i64 e.n,.string e.name,.slice (some ⟨b,o,none⟩) 2 c] 49)=W0 at *;generalize w.heap.size=G at *;have c0:=HQ.out.cell (i:=0) (v:=.int .i64 e.kind) rfl;have c2:=HQ.out.cell (i:=2) (v:=.int .i64 e.n) rfl;have c3:=HQ.out.cell (i:=3) (v:=.string e.name) rfl;have c4:=HQ.out.cell (i:=4) (v:=.slice (some ⟨b,o,none⟩) 2 c) rfl;go_wp2_with fail
     refine(HBK.out _).mono ?_;rintro r w1 ⟨rfl,rfl⟩;clear HBK;have z00:W0.cell? ⟨b,o,none⟩=some (.int .i64 x0.kind):=by simpa[Nat.add_assoc] using HB.out.cell y00
     have z01:W0.cell? ⟨b,o+1,none⟩=some (.int .i64 x0.at_):=by simpa[Nat.add_assoc] using HB.out.cell y01
     have z02:W0.cell? ⟨b,o+2,none⟩=some (.int .i64 x0.n):=by simpa[Nat.add_assoc] using HB.out.cell y02
     have z03:W0.cell? ⟨b,o+3,none⟩=some (.string x0.name):=by simpa[Nat.add_assoc] using HB.out.cell y03
     have z04:W0.cell? ⟨b,o+4,none⟩=some (.slice B0 m0 cc0):=by simpa[Nat.add_assoc] using HB.out.cell y04
     go_wp2_with fail
     refine(HI0.out _ _ (HVA.out _ HB.out).1).mono ?_;rintro r w2 ⟨rfl,hb⟩;have HB1:=Hi_ (HB.out.tr hb);replace HQ:=Hi_ (HQ.out.keep hb);clear hb c0 c2 c3 c4 z00 z01 z02 z03 z04;cases hk:x0.ok with
     | false =>
      rw[hk,Bool.false_and] at HT2;clear hk;go_wp2;go_ret;exact⟨by rw[HT2.out];rfl,HB1.out⟩
     | true =>
      rw[hk,Bool.true_and] at HT2;clear hk;have c4:=HQ.out.cell (i:=4) (v:=.slice (some ⟨b,o,none⟩) 2 c) rfl;have z10:w2.cell? ⟨b,o+5,none⟩=some (.int .i64 x1.kind):=by simpa[Nat.add_assoc] using HB1.out.cell y10
      have z11:w2.cell? ⟨b,o+6,none⟩=some (.int .i64 x1.at_):=by simpa[Nat.add_assoc] using HB1.out.cell y11
      have z12:w2.cell? ⟨b,o+7,none⟩=some (.int .i64 x1.n):=by simpa[Nat.add_assoc] using HB1.out.cell y12
      have z13:w2.cell? ⟨b,o+8,none⟩=some (.string x1.name):=by simpa[Nat.add_assoc] using HB1.out.cell y13
      have z14:w2.cell? ⟨b,o+9,none⟩=some (.slice B1 m1 cc1):=by simpa[Nat.add_assoc] using HB1.out.cell y14
      go_wp2_with fail
      refine(HI1.out _ _ (HVA.out _ HB1.out).2).mono ?_;rintro r w3 ⟨rfl,hb⟩;replace HB1:=Hi_ (HB1.out.tr hb);clear hb;go_wp2;go_ret;exact⟨by rw[HT2.out];rfl,HB1.out⟩
    ·have dl:((e.args.length:Int)==2)=false:=by rw[beq_eq_false_iff_ne];omega
     rw[decide_eq_false hl_,Bool.false_and] at HT;clear k1 k2 k3 k4 hn_ hs_ hl_;go_enter Tryz.func38,Tryz.ntmps38;go_upto_region 1 with fail;generalize w.alloc (.cells #[.int .i64 e.kind,.int .i64 e.at_,.int .i64 e.n,.string e.name,.slice A e.args.length c] 49)=W0 at *;generalize w.heap.size=G at *;have c0:=HQ.out.cell (i:=0) (v:=.int .i64 e.kind) rfl;have c2:=HQ.out.cell (i:=2) (v:=.int .i64 e.n) rfl;have c3:=HQ.out.cell (i:=3) (v:=.string e.name) rfl;have c4:=HQ.out.cell (i:=4) (v:=.slice A e.args.length c) rfl;go_wp2_with fail
     refine(HBK.out _).mono ?_;rintro r w1 ⟨rfl,rfl⟩;clear HBK;clear HI HA HIS HBN;go_wp2;go_ret;exact⟨by first | (rw[HT.out];rfl) | rfl,HB.out⟩
   ·have ds:(e.name.toList==[])=false:=b0L hs_;rw[decide_eq_false hs_,Bool.false_and] at HT;clear k1 k2 k3 k4 hn_ hs_;go_enter Tryz.func38,Tryz.ntmps38;go_upto_region 1 with fail;generalize w.alloc (.cells #[.int .i64 e.kind,.int .i64 e.at_,.int .i64 e.n,.string e.name,.slice A e.args.length c] 49)=W0 at *;generalize w.heap.size=G at *;have c0:=HQ.out.cell (i:=0) (v:=.int .i64 e.kind) rfl;have c2:=HQ.out.cell (i:=2) (v:=.int .i64 e.n) rfl;have c3:=HQ.out.cell (i:=3) (v:=.string e.name) rfl;have c4:=HQ.out.cell (i:=4) (v:=.slice A e.args.length c) rfl;go_wp2_with fail
    refine(HBK.out _).mono ?_;rintro r w1 ⟨rfl,rfl⟩;clear HBK;clear HI HA HIS HBN;go_wp2;go_ret;exact⟨by first | (rw[HT.out];rfl) | rfl,HB.out⟩
  ·have dn:(e.n==0)=false:=by simpa using hn_
   rw[decide_eq_false hn_,Bool.false_and] at HT;clear k1 k2 k3 k4 hn_;go_enter Tryz.func38,Tryz.ntmps38;go_upto_region 1 with fail;generalize w.alloc (.cells #[.int .i64 e.kind,.int .i64 e.at_,.int .i64 e.n,.string e.name,.slice A e.args.length c] 49)=W0 at *;generalize w.heap.size=G at *;have c0:=HQ.out.cell (i:=0) (v:=.int .i64 e.kind) rfl;have c2:=HQ.out.cell (i:=2) (v:=.int .i64 e.n) rfl;have c3:=HQ.out.cell (i:=3) (v:=.string e.name) rfl;have c4:=HQ.out.cell (i:=4) (v:=.slice A e.args.length c) rfl;go_wp2_with fail
   refine(HBK.out _).mono ?_;rintro r w1 ⟨rfl,rfl⟩;clear HBK;clear HI HA HIS HBN;go_wp2;go_ret;exact⟨by first | (rw[HT.out];rfl) | rfl,HB.out⟩
 ·have HT:=Hi_ (c6d (e:=e) (by omega));rw[decide_eq_false k4] at HBK;clear k1 k2 k3 k4;generalize e.ok=T at *;generalize e.kind=k at *;go_enter Tryz.func38,Tryz.ntmps38;go_upto_region 1 with fail;go_wp2_with fail
  refine(HBK.out _).mono ?_;rintro r w1 ⟨rfl,rfl⟩;go_wp2;go_ret;exact⟨by first | (rw[HT.out];rfl) | rfl,HB.out⟩
theorem b7r:∀(e:TE) (val:Value) (w:World),TEV w e val→Calls Tryz.prog 38 #[val] w fun r w'=>r=.returned (.bool e.ok)∧Bel w w':=
 TE.ind fun k a n s args ih val w h=>c0C (.mk k a n s args) ih val w h
end Go.Proofs.YtmfjlcpjemccmaaGreatDoor
