/- The document counts commands: walked. Each lemma states its own conditions. -/
import Derived.Test.YtmfjlcpjemccmaaGreatDoorSbk15
import Derived.Test.YtmfjlcpjemccmaaGreatDoorSbk16
namespace Go.Proofs.YtmfjlcpjemccmaaGreatDoor
set_option maxRecDepth 20000
set_option maxHeartbeats 20000000
open Go.RowKit
def b6S(l:List TC)(d:Int):Int:=if b1H l d then min 41 (b1S l:Int) else 41
def c0m(l:List TC)(d n:Int):Int:=if 41≤n then 41 else if b1H l d then min 41 (n+b1S l) else 41
theorem b9s{l:List TC}{d:Int}:0≤b6S l d∧b6S l d≤41:=by
 unfold b6S;split<;>omega
theorem c2z{l:List TC}{d:Int}:c0m l d 0=b6S l d:=by
 unfold c0m b6S;rw[if_neg (by decide),Int.zero_add]
theorem c0n{l:List TC}{k:Nat}(h:l.length≤k)(d n:Int):c0m (l.drop k) d n=if 41≤n then 41 else n:=by
 unfold c0m;rw[b9R h,b8W h];split
 ·rfl
 ·rw[if_pos rfl];omega
theorem c2y{l:List TC}{d n:Int}(h:41≤n):c0m l d n=41:=by unfold c0m;rw[if_pos h]
theorem c4k{l:List TC}{k:Nat}{x:TC}(hx:l[k]? = some x){d n:Int}(hn:n≤40)(h:x.fine d=false):c0m (l.drop k) d n=41:=by
 unfold c0m;rw[b3Q hx,h,if_neg (by omega)];simp
theorem c6G{l:List TC}{k:Nat}{x:TC}(hx:l[k]? = some x){d n:Int}(hd:d≤5)(h0:0≤n)(hn:n≤40)(h1:x.index.great=false)(h2:x.expr.great=false)(h3:x.args.length≤3)(h4:x.args.any TE.great=false) :
  c0m (l.drop k) d n=c0m (l.drop (k+1)) d (n+(1+b6S x.thn (d+1)+b6S x.els (d+1))):=by
 unfold c0m b6S;rw[b3Q hx,b3s hx,TC.fine_eq,TC.cnt_eq,h1,h2,h4,decide_eq_true h3,decide_eq_true hd,if_neg (by omega)];generalize b1H (l.drop (k+1)) d=b3;generalize b1H x.thn (d+1)=b1;generalize b1H x.els (d+1)=b2;generalize b1S (l.drop (k+1))=c3;generalize b1S x.thn=c1;generalize b1S x.els=c2;cases b1<;>cases b2<;>cases b3<;>simp<;>(repeat' split)<;>omega
theorem c0t{x:TC}{d:Int}(h:x.expr.great=true):x.fine d=false:=by rw[TC.fine_eq,h];simp
theorem c0u{x:TC}{d:Int}(h:x.index.great=true):x.fine d=false:=by rw[TC.fine_eq,h];simp
theorem c0v{x:TC}{d:Int}(h:¬x.args.length≤3):x.fine d=false:=by rw[TC.fine_eq,decide_eq_false h];simp
theorem c0w{x:TC}{d:Int}(h:x.args.any TE.great=true):x.fine d=false:=by rw[TC.fine_eq,h];simp
theorem b5Y{e:TE}(h:15<e.size 15):e.great=true:=decide_eq_true h
theorem b6e{e:TE}(h:¬15<e.size 15):e.great=false:=decide_eq_false h
theorem c1b(l:List TC)(d:Int)(v:Value)(w:World)(h:Sl tcR w v l)(h1:1≤d)(h6:d≤5)
  (IH:∀(l:List TC) (v:Value) (W:World),Sl tcR W v l→Calls Tryz.prog 81 #[v,.int .i64 (d+1)] W fun r w'=>r=.returned (.int .i64 (b6S l (d+1)))∧Bel W w') :
  Calls Tryz.prog 81 #[v,.int .i64 d] w fun r w'=>r=.returned (.int .i64 (b6S l d))∧Bel w w':=by
 have HSL:=Hi_ h;have HI:=Hi_ IH;have HP:=Hi_ (fun(e:TE) (val:Value) W (he:TEV W e val)=>b7T e 15 val W (by decide) (by decide) he);have HT:Hid (c0m (l.drop 0) d 0=b6S l d):=Hi_ c2z;generalize b6S l d=T at *;obtain⟨A,c,rfl,hc,hm,-⟩:=h;have hll:l.length≤9223372036854775807:=by have:=hm.1;simp only[maxLen] at this;omega
 have hd5:decide (5<d)=false:=decide_eq_false (by omega);have hd5':¬5<d:=by omega
 have HRF:=Hi_ (Bel.rfl_ w)
 have hl01:(decide (0<l.length)=true∧0<l.length)∨(decide (0<l.length)=false∧¬0<l.length):=by
  by_cases h:0<l.length
  ·exact Or.inl ⟨decide_eq_true h,h⟩
  ·exact Or.inr ⟨decide_eq_false h,h⟩
 clear hm hc IH;go_enter Tryz.func81,Tryz.ntmps81;rcases hl01 with⟨hl01,hl02⟩ | ⟨hl01,hl02⟩
 case inr =>
  obtain rfl:l=[]:=List.eq_nil_of_length_eq_zero (by omega);have HT2:Hid ((0:Int)=T):=Hi_ (by rw[←HT.out];exact(c0n (l:=[]) (Nat.zero_le 0) d 0).symm);have d0:decide ((0:Int)<(([]:List TC).length:Int))=false:=rfl;clear HT hd5 hd5' hl02;go_wp2;go_loopw [5,6] (fun a i wr=>a=.int .i64 0∧i=.int .i64 0∧Hid (Bel w wr)) (fun _ _ _=>0)
  case atStart=>exact⟨rfl,rfl,HRF⟩
  case round =>
   obtain⟨rfl,rfl,HB⟩:=hrel;go_wp2;go_ret;exact⟨by rw[HT2.out];rfl,HB.out⟩
 all_goals
  go_wp2;clear hd5 hd5' hl01 hl02;go_loopw [5,6] (fun a i wr=>∃(j:Nat) (n:Int),a=.int .i64 n∧i=.int .i64 j∧j≤l.length∧0≤n∧n≤123∧Hid (c0m (l.drop j) d n=T)∧Hid (Bel w wr)) (fun _ i _=>l.length-(intOf i).toNat)
  case atStart=>exact⟨0,0,rfl,rfl,Nat.zero_le _,by decide,by decide,HT,HRF⟩
  case round =>
   obtain⟨j,n,rfl,rfl,hj,hn0,hn1,HS,HB⟩:=hrel;obtain⟨WO,hWO⟩:∃W,W=wr:=⟨_,rfl⟩;subst hWO;clear HT HRF;by_cases hlt:j<l.length
   ·have hdd:decide ((j:Int)<l.length)=true:=decide_eq_true (by omega);by_cases hnm:n≤40
    ·have hnd:decide (n≤40)=true:=decide_eq_true hnm;obtain⟨x,hx⟩:∃x,l[j]? = some x:=⟨_,List.getElem?_eq_getElem hlt⟩;obtain⟨b,o,cs,rfl,hcs,hca⟩:=c7w (HSL.out.keep HB.out) hx;have HX:=Hi_ hx;clear hx;have i0:(0:Int)≤j:=by omega
     have i1:(j:Int)<l.length:=by omega
     have HCS:=Hi_ hcs;have HCA:=Hi_ hca;clear hcs hca;go_upto_region 8 with(refine c0o (.tmp 28) (.tmp 7) (.tmp 29) rfl rfl rfl rfl rfl rfl b (o+j*17) (by exact rfl) cs HCA.out HCS.out (by exact rfl) (by exact rfl) ?_);have HBW:=Hi_ ((Bel.rfl_ WO).al (.cells cs.toArray 53));have HK:=Hi_ (Blk.new WO 53 cs.toArray);obtain⟨vi,ve,va,vt,vs,rfl,-,-,hin,hen,hsi,hse,hsa,hst,hsl⟩:=b4M HCS.out;clear HCS HCA;generalize hW1:WO.alloc _=W1 at *;clear hW1;generalize WO.heap.size=G at *;have HEV:Hid (∀W,Bel WO W→TEV W x.expr (.agg #[.int .i64 x.expr.kind,.int .i64 x.expr.at_,.int .i64 x.expr.n,.string x.expr.name,ve])):=Hi_ fun W hb=>⟨_,rfl,hen,hse.keep hb⟩;have HIV:Hid (∀W,Bel WO W→TEV W x.index (.agg #[.int .i64 x.index.kind,.int .i64 x.index.at_,.int .i64 x.index.n,.string x.index.name,vi])):=Hi_ fun W hb=>⟨_,rfl,hin,hsi.keep hb⟩;have HSA:=Hi_ hsa;have HTH:=Hi_ (fun W hb=>HI.out x.thn vt W (hst.keep hb));have HEL:=Hi_ (fun W hb=>HI.out x.els vs W (hsl.keep hb));obtain⟨Ai,ci,rfl,-⟩:=hsi;obtain⟨Ae,ce,rfl,-⟩:=hse;obtain⟨Aa,ca,rfl,hca1,hca2,-⟩:=hsa;obtain⟨At,ct,rfl,-⟩:=hst;obtain⟨Al,cl,rfl,-⟩:=hsl;clear hin hen HI;have hal:x.args.length≤9223372036854775807:=by have:=hca2.1;simp only[maxLen] at this;omega
     clear hca1 hca2;have hcT:=b9s (l:=x.thn) (d:=d+1);have hcE:=b9s (l:=x.els) (d:=d+1);have HCN:=Hi_ (fun(h1:x.index.great=false) (h2:x.expr.great=false) (h3:x.args.length≤3) (h4:x.args.any TE.great=false)=>(c6G HX.out (d:=d) (n:=n) (by omega) hn0 hnm h1 h2 h3 h4).symm.trans HS.out);have HBAD:=Hi_ (fun(hf:x.fine d=false)=>(c4k HX.out hnm hf).symm.trans HS.out);clear HX HS;generalize x.expr.kind=ek at *;generalize x.expr.at_=ea at *;generalize x.expr.n=en at *;generalize x.expr.name=es at *;generalize x.index.kind=ik at *;generalize x.index.at_=ia at *;generalize x.index.n=iN at *;generalize x.index.name=is_ at *;have c9:=HK.out.cell (i:=9) (v:=.int .i64 ek) rfl;have c10:=HK.out.cell (i:=10) (v:=.int .i64 ea) rfl;have c11:=HK.out.cell (i:=11) (v:=.int .i64 en) rfl;have c12:=HK.out.cell (i:=12) (v:=.string es) rfl;have c13:=HK.out.cell (i:=13) (v:=.slice Ae x.expr.args.length ce) rfl;go_wp2_with fail
     refine(HP.out x.expr _ _ (HEV.out _ HBW.out)).mono ?_;rintro r W2 ⟨rfl,hb2⟩;replace HBW:=Hi_ (HBW.out.tr hb2);replace HK:=Hi_ (HK.out.keep hb2);clear hb2 c9 c10 c11 c12 c13;by_cases ge:15<x.expr.size 15
     ·have de:decide (15<x.expr.size 15)=true:=decide_eq_true ge;have HR:Hid ((41:Int)=T):=Hi_ (HBAD.out (c0t (b5Y ge)));go_wp2;go_ret;exact⟨by rw[HR.out];rfl,HB.out.tr HBW.out⟩
     ·have de:decide (15<x.expr.size 15)=false:=decide_eq_false ge;have he':x.expr.size 15≤15:=by omega
      have c4:=HK.out.cell (i:=4) (v:=.int .i64 ik) rfl;have c5:=HK.out.cell (i:=5) (v:=.int .i64 ia) rfl;have c6:=HK.out.cell (i:=6) (v:=.int .i64 iN) rfl;have c7:=HK.out.cell (i:=7) (v:=.string is_) rfl;have c8:=HK.out.cell (i:=8) (v:=.slice Ai x.index.args.length ci) rfl;go_wp2_with fail
      refine(HP.out x.index _ _ (HIV.out _ HBW.out)).mono ?_;rintro r W3 ⟨rfl,hb3⟩;replace HBW:=Hi_ (HBW.out.tr hb3);replace HK:=Hi_ (HK.out.keep hb3);clear hb3 c4 c5 c6 c7 c8;by_cases gi:15<x.index.size 15
      ·have di:decide (15<x.index.size 15)=true:=decide_eq_true gi;have HR:Hid ((41:Int)=T):=Hi_ (HBAD.out (c0u (b5Y gi)));go_wp2;go_ret;exact⟨by rw[HR.out];rfl,HB.out.tr HBW.out⟩
      ·have di:decide (15<x.index.size 15)=false:=decide_eq_false gi;have hi':x.index.size 15≤15:=by omega
       have c14:=HK.out.cell (i:=14) (v:=.slice Aa x.args.length ca) rfl;by_cases ga:x.args.length≤3
       rotate_left
       ·have da:decide ((3:Int)<x.args.length)=true:=decide_eq_true (by omega);have da':3<x.args.length:=by omega
        have HR:Hid ((41:Int)=T):=Hi_ (HBAD.out (c0v ga));go_wp2;go_ret;exact⟨by rw[HR.out];rfl,HB.out.tr HBW.out⟩
       ·have da:decide ((3:Int)<x.args.length)=false:=decide_eq_false (by omega);have da':¬3<x.args.length:=by omega
        have HG1:=Hi_ (b6e (e:=x.expr) (by omega));have HG2:=Hi_ (b6e (e:=x.index) (by omega));go_wp2;clear ge gi de di he' hi' da da' HEV HIV c14;go_loopw [8] (fun kv wx=>∃k:Nat,kv=.int .i64 k∧k≤x.args.length∧Hid ((x.args.drop k).any TE.great=x.args.any TE.great)∧Hid (Bel WO wx)∧Hid (Blk wx G 53 #[.int .i64 x.kind,.int .i64 x.at_,.string x.name,.string x.other,.int .i64 ik,.int .i64 ia,.int .i64 iN,.string is_,.slice Ai x.index.args.length ci,.int .i64 ek,.int .i64 ea,.int .i64 en,.string es,.slice Ae x.expr.args.length ce,.slice Aa x.args.length ca,.slice At x.thn.length ct,.slice Al x.els.length cl])) (fun kv _=>x.args.length-(intOf kv).toNat)
        case atStart=>exact⟨0,rfl,Nat.zero_le _,Hi_ rfl,HBW,HK⟩
        case round =>
         obtain⟨k,rfl,hk,HAN,HBX,HKX⟩:=hrel;clear HBW HK;have c14:=HKX.out.cell (i:=14) (v:=.slice Aa x.args.length ca) rfl;by_cases hkl:k<x.args.length
         ·have hkd:decide ((k:Int)<x.args.length)=true:=decide_eq_true (by omega);obtain⟨y,hy⟩:∃y,x.args[k]? = some y:=⟨_,List.getElem?_eq_getElem hkl⟩;obtain⟨ba,oa,rfl,hA⟩:=Sl.lies (r:=teR) HSA.out (by omega);obtain⟨Y,my,cy,sy,ny,y0,y1,y2,y3,y4⟩:=teR.cells hA hy;have HYV:Hid (TEV wr y (.agg #[.int .i64 y.kind,.int .i64 y.at_,.int .i64 y.n,.string y.name,.slice Y my cy])):=Hi_ ⟨_,rfl,ny,sy.keep HBX.out⟩;have y0:=HBX.out.cell y0;have y1:=HBX.out.cell y1;have y2:=HBX.out.cell y2;have y3:=HBX.out.cell y3;have y4:=HBX.out.cell y4;have HY:=Hi_ hy;clear hA hy sy ny;generalize y.kind=yk at *;generalize y.at_=ya at *;generalize y.n=yn at *;generalize y.name=ys at *;have j0:(0:Int)≤k:=by omega
          have j1:(k:Int)<x.args.length:=by omega
          go_wp2_with fail
          refine(HP.out y _ _ HYV.out).mono ?_;rintro r W5 ⟨rfl,hb5⟩;replace HBX:=Hi_ (HBX.out.tr hb5);replace HKX:=Hi_ (HKX.out.keep hb5);clear hb5 y0 y1 y2 y3 y4 HYV c14;by_cases gy:15<y.size 15
          ·have dy:decide (15<y.size 15)=true:=decide_eq_true gy;have HR:Hid ((41:Int)=T):=Hi_ (HBAD.out (c0w (List.any_eq_true.2 ⟨y,List.mem_of_getElem? HY.out,b5Y gy⟩)));go_wp2;go_ret;exact⟨by rw[HR.out];rfl,HB.out.tr HBX.out⟩
          ·have dy:decide (15<y.size 15)=false:=decide_eq_false gy;have dy':y.size 15≤15:=by omega
           have HAN2:Hid ((x.args.drop (k+1)).any TE.great=x.args.any TE.great):=Hi_ (by rw[←HAN.out,List.drop_eq_getElem_cons hkl,List.any_cons,(List.getElem?_eq_some_iff.1 HY.out).2,b6e gy,Bool.false_or]);go_wp2;go_roundw
           case rel=>exact⟨k+1,by go_num,by omega,HAN2,HBX,HKX⟩
           case measure=>simp[intOf];omega
         ·have hkd:decide ((k:Int)<x.args.length)=false:=decide_eq_false (by omega);have HCN2:Hid (c0m (l.drop (j+1)) d (n+(1+b6S x.thn (d+1)+b6S x.els (d+1)))=T):=Hi_ (HCN.out HG2.out HG1.out ga (by rw[←HAN.out,List.drop_eq_nil_of_le (by omega)];rfl));clear HCN HBAD HAN HG1 HG2;go_wp2;have HKC:Hid (∀W,Bel wr W→W.cell? ⟨G,15,none⟩=some (.slice At x.thn.length ct)∧W.cell? ⟨G,16,none⟩=some (.slice Al x.els.length cl)):=Hi_ fun W hb=>⟨(HKX.out.keep hb).cell rfl,(HKX.out.keep hb).cell rfl⟩;have HRF:=Hi_ (Bel.rfl_ wr);obtain⟨c15,c16⟩:=HKC.out _ HRF.out;have i5:d+1≤6:=by omega
          generalize b6S x.thn (d+1)=nT at *;generalize b6S x.els (d+1)=nE at *;have HBW:=HRF;go_upto_region 15 with fail;have hwd:IntKind.i64.wrap (d+1)=d+1:=by rw[IntKind.wrap_i64];omega
          have hw1:IntKind.i64.wrap (1+nT)=1+nT:=by rw[IntKind.wrap_i64];omega
          have hw2:IntKind.i64.wrap (1+nT+nE)=1+nT+nE:=by rw[IntKind.wrap_i64];omega
          have hw3:IntKind.i64.wrap (n+(1+nT+nE))=n+(1+nT+nE):=by rw[IntKind.wrap_i64];omega
          obtain⟨WX,hWX⟩:∃W,W=wr:=⟨_,rfl⟩;subst hWX;refine wp_region_held_drew (S:=fun W=>Bel WX W) (by kernel_rfl) ((Bel.rfl_ WX).dr) (fun hS=>?_);refine b2h (i:=0) (v:=.int .i64 n) rfl (by kernel_rfl) (by kernel_rfl) (by kernel_rfl) (fun _ _ _ h=>h) (by kernel_rfl) hS (fun W _=>by kernel_rfl) ?_;refine b2h (i:=1) (v:=.pointer (some ⟨G,15,none⟩)) rfl (by kernel_rfl) (by kernel_rfl) (by kernel_rfl) (fun _ _ _ h=>h) (by kernel_rfl) hS (fun W _=>by kernel_rfl) ?_;refine b2h (i:=2) (v:=.slice At x.thn.length ct) rfl (by kernel_rfl) (by kernel_rfl) (by kernel_rfl) (fun _ _ _ h=>h) (by kernel_rfl) hS (fun W hb=>by(obtain⟨c15,c16⟩:=HKC.out W hb;go_simp)) ?_;refine b2h (i:=3) (v:=.int .i64 d) rfl (by kernel_rfl) (by kernel_rfl) (by kernel_rfl) (fun _ _ _ h=>h) (by kernel_rfl) hS (fun W _=>by kernel_rfl) ?_;refine b2h (i:=4) (v:=.int .i64 (d+1)) rfl (by kernel_rfl) (by kernel_rfl) (by kernel_rfl) (fun _ _ _ h=>h) (by kernel_rfl) hS (fun W _=>Eq.trans (b:=.ok (.value (.int .i64 (IntKind.i64.wrap (d+1)))) W) (by kernel_rfl) (by rw[hwd])) ?_;refine b2h (i:=7) (v:=.pointer (some ⟨G,16,none⟩)) rfl (by kernel_rfl) (by kernel_rfl) (by kernel_rfl) (fun _ _ _ h=>h) (by kernel_rfl) hS (fun W _=>by kernel_rfl) ?_;refine b2h (i:=8) (v:=.slice Al x.els.length cl) rfl (by kernel_rfl) (by kernel_rfl) (by kernel_rfl) (fun _ _ _ h=>h) (by kernel_rfl) hS (fun W hb=>by(obtain⟨c15,c16⟩:=HKC.out W hb;go_simp)) ?_;refine b2h (i:=9) (v:=.int .i64 d) rfl (by kernel_rfl) (by kernel_rfl) (by kernel_rfl) (fun _ _ _ h=>h) (by kernel_rfl) hS (fun W _=>by kernel_rfl) ?_;refine b2h (i:=10) (v:=.int .i64 (d+1)) rfl (by kernel_rfl) (by kernel_rfl) (by kernel_rfl) (fun _ _ _ h=>h) (by kernel_rfl) hS (fun W _=>Eq.trans (b:=.ok (.value (.int .i64 (IntKind.i64.wrap (d+1)))) W) (by kernel_rfl) (by rw[hwd])) ?_;refine c0M (i:=5) (by kernel_rfl) rfl (by kernel_rfl) 81 #[.slice At x.thn.length ct,.int .i64 (d+1)] (by kernel_rfl) (HTH.out _ (HBX.out.tr hS)) ?_;rintro e w7 ⟨rfl,hb7⟩;refine⟨_,rfl,hS.tr hb7,fun hS=>?_⟩
          refine b2h (i:=6) (v:=.int .i64 (1+nT)) rfl (by kernel_rfl) (by kernel_rfl) (by kernel_rfl) (fun _ _ _ h=>h) (by kernel_rfl) hS (fun W _=>Eq.trans (b:=.ok (.value (.int .i64 (IntKind.i64.wrap (1+nT)))) W) (by kernel_rfl) (by rw[hw1])) ?_;refine c0M (i:=11) (by kernel_rfl) rfl (by kernel_rfl) 81 #[.slice Al x.els.length cl,.int .i64 (d+1)] (by kernel_rfl) (HEL.out _ (HBX.out.tr hS)) ?_;rintro e w8 ⟨rfl,hb8⟩;refine⟨_,rfl,hS.tr hb8,fun hS=>?_⟩;refine b2h (i:=12) (v:=.int .i64 (1+nT+nE)) rfl (by kernel_rfl) (by kernel_rfl) (by kernel_rfl) (fun _ _ _ h=>h) (by kernel_rfl) hS (fun W _=>Eq.trans (b:=.ok (.value (.int .i64 (IntKind.i64.wrap (1+nT+nE)))) W) (by kernel_rfl) (by rw[hw2])) ?_;refine b2h (i:=13) (v:=.int .i64 (n+(1+nT+nE))) rfl (by kernel_rfl) (by kernel_rfl) (by kernel_rfl) (fun _ _ _ h=>h) (by kernel_rfl) hS (fun W _=>Eq.trans (b:=.ok (.value (.int .i64 (IntKind.i64.wrap (n+(1+nT+nE))))) W) (by kernel_rfl) (by rw[hw3])) ?_;refine b2h (i:=14) (v:=.int .i64 (n+(1+nT+nE))) rfl (by kernel_rfl) (by kernel_rfl) (by kernel_rfl) (fun _ _ _ h=>h) (by kernel_rfl) hS (fun W _=>by kernel_rfl) ?_;refine wpAnyH_done (by kernel_rfl) ?_ _;have HBW:=Hi_ hS;go_wp2;go_roundw
          case rel=>exact⟨j+1,n+(1+nT+nE),by go_num,by go_num,by omega,by omega,by omega,HCN2,HB.out.tr (HBX.out.tr HBW.out)⟩
          case measure=>simp[intOf];omega
    ·have hnd:decide (n≤40)=false:=decide_eq_false hnm;have HR:Hid ((41:Int)=T):=Hi_ (by rw[←HS.out,c2y (by omega)]);clear HS;by_cases h41:41<n
     ·have d41:decide (41<n)=true:=decide_eq_true h41;go_wp2;go_ret;exact⟨by rw[HR.out];rfl,HB.out⟩
     ·obtain rfl:n=41:=by omega
      go_wp2;go_ret;exact⟨by rw[HR.out];rfl,HB.out⟩
   ·have hdd:decide ((j:Int)<l.length)=false:=decide_eq_false (by omega);have HR:Hid ((if 41≤n then 41 else n)=T):=Hi_ (by rw[←HS.out,c0n (by omega)]);clear HS;by_cases h41:41<n
    ·have d41:decide (41<n)=true:=decide_eq_true h41;rw[if_pos (by omega)] at HR;go_wp2;go_ret;exact⟨by rw[HR.out];rfl,HB.out⟩
    ·have d41:decide (41<n)=false:=decide_eq_false h41;have HR2:Hid (n=T):=Hi_ (by rw[←HR.out];split<;>omega);clear HR;go_wp2;go_ret;exact⟨by rw[HR2.out];rfl,HB.out⟩
section
variable {l:List Tok}{E:Nat}{q r:RS}
def b6L(l:List Tok)(k:Nat)(q:RS):ByteArray×RS:=b0D l (if 0<k then b0A l b0e q else q)
theorem b1Q{n k:Nat}(h:q.2=true∨tx l q.1 q.2=b0Y):b0z l n k q=([],q):=by
 cases n with
 | zero=>rfl
 | succ n=>rw[b0z,if_pos h]
theorem b7t{n k:Nat}(h1:q.2=false)(h2:tx l q.1 q.2≠b0Y):b0z l (n+1) k q=((b6L l k q).1::(b0z l n (k+1) (b6L l k q).2).1,(b0z l n (k+1) (b6L l k q).2).2):=by
 rw[b0z,if_neg (by rintro(h | h);rw[h1] at h;cases h;exact h2 h)];rfl
theorem b6i(q:RS):(b0D l q).2.2=true∨q.1<(b0D l q).2.1:=by
 unfold b0D;split
 ·exact Or.inr (Nat.lt_succ_self _)
 ·exact Or.inl rfl
theorem c1I(k:Nat)(q:RS):Ge l q (b6L l k q).2∧((b6L l k q).2.2=true∨q.1<(b6L l k q).2.1):=by
 unfold b6L
 have h2:Ge l q (if 0<k then b0A l b0e q else q):=by
  split
  ·exact b0p (by decide) _
  ·exact Ge.refl l q
 refine⟨h2.trans (b3n _),(b6i _).imp (fun h=>h) fun h=>Nat.lt_of_le_of_lt h2.1 h⟩
theorem b7Q:∀(n k:Nat) (q:RS),Ge l q (b0z l n k q).2
 | 0,_,q=>Ge.refl l q
 | n+1,k,q=>by
  by_cases h:q.2=true∨tx l q.1 q.2=b0Y
  ·rw[b1Q h];exact Ge.refl l q
  ·have h1:q.2=false:=by
    cases hq:q.2 with
    | true=>exact absurd (Or.inl hq) h
    | false=>rfl
   rw[b7t h1 fun e=>h (Or.inr e)];exact(c1I k q).1.trans (b7Q n (k+1) _)
theorem b6H(hok:∀t∈l,b0r t):∀(n:Nat) (q:RS),Ge l q (b1b l n q).2
 | 0,q=>Ge.refl l q
 | n+1,q=>by
  by_cases h:q.2=false∧(tx l q.1 q.2=b7d∨tx l q.1 q.2=b5t)
  ·rw[b5B h.1 h.2];have he:tx l q.1 q.2≠emp:=by rcases h.2 with h2 | h2<;>rw[h2]<;>decide
   refine Ge.trans ?_ (b6H hok n _);unfold b5O;simp only[];refine(b0p he _).trans ((b3n _).trans ?_);split
   ·exact(b9x _).trans ((c3j hok _).trans (b0p (by decide) _))
   ·exact b0p (by decide) _
  ·rw[b3S h];exact Ge.refl l q
theorem c3W(hok:∀t∈l,b0r t)(q:RS)(h1:q.2=false)(h2:tx l q.1 q.2=b2b):Ge l q (b5W l E q).2∧q.1<(b5W l E q).2.1:=by
 have h3:=b4n h1 h2
 have h4:Ge l (b0A l b2b q) (b5W l E q).2:=by
  unfold b5W;simp only[];exact(b3n _).trans ((b0p (by decide) _).trans ((b7Q _ _ _).trans ((b0p (by decide) _).trans ((b0p (by decide) _).trans ((b6H hok _ _).trans ((b4G hok _ _ _).trans ((b0p (by decide) _).trans ((b2O hok 60 _).trans ((b0p (by decide) _).trans (b0p (by decide) _))))))))))
 refine⟨(b0p (by decide) _).trans h4,?_⟩;have:=h4.1;rw[h3] at this;exact this
theorem b3Z{n:Nat}(h:¬(q.2=false∧tx l q.1 q.2=b2b)):b1x l E n q=([],q):=by
 cases n with
 | zero=>rfl
 | succ n=>rw[b1x,if_neg h]
theorem b7B{n:Nat}(h1:q.2=false)(h2:tx l q.1 q.2=b2b):b1x l E (n+1) q=((b5W l E q).1::(b1x l E n (b5W l E q).2).1,(b1x l E n (b5W l E q).2).2):=by
 rw[b1x,if_pos ⟨h1,h2⟩]
def b9Y(l:List Tok)(E:Nat)(q:RS):TF×RS:=
 let vs:=b1b l (l.length+1) (b0A l b0u (b0A l b3b q))
 let cs:=b1K l E (l.length+1) b0v vs.2
 (⟨place l E q.1,emp,[],vs.1,cs.1,b1P⟩,b0A l b0v cs.2)
theorem c1S(l:List Tok)(E:Nat):b2Q l E=((b1x l E (l.length+1) (0,false)).1++[(b9Y l E (b1x l E (l.length+1) (0,false)).2).1],(b9Y l E (b1x l E (l.length+1) (0,false)).2).2):=rfl
end
theorem b0m:b9G tfR:=by
 intro X Y hc cs x h;obtain⟨vp,vv,vc,vr,h1,h2,h3,h4,h5,h6,h7⟩:=h;exact⟨vp,vv,vc,vr,h1,h2,h3,h4.more b1i hc,h5.more b1J hc,h6.more b0h hc,h7.more b0J hc⟩
theorem b5Q:Elem Tryz.prog 22 51 10 160:=Elem.mk_ (z:=.agg c7F) (by kernel_rfl) (by kernel_rfl) rfl (by decide)
theorem c8v:Elem Tryz.prog 44 9 1 16:=Elem.mk_ (z:=.string ⟨#[]⟩) (by kernel_rfl) (by kernel_rfl) rfl (by decide)
theorem b4O{W:World}{cs:List Value}{x:TF}(h:tfR.R W cs x):∀u∈cs,u.oneCell'=true:=by
 obtain⟨vp,vv,vc,vr,rfl,-,-,h1,h2,h3,h4⟩:=h;obtain⟨_,_,rfl,-⟩:=h1;obtain⟨_,_,rfl,-⟩:=h2;obtain⟨_,_,rfl,-⟩:=h3;obtain⟨_,_,rfl,-⟩:=h4;simp[Value.oneCell']
def Bfn(w X W:World)(g:Nat)(lv:Value)(E:Nat)(r:RS)(q:Nat)(cs:Array Value):Prop:=
 Rd W g lv r.1 E r.2∧Blk W q 51 cs∧w.grownBy W (some g)∧(g<w.heap.size∧w.heap.size≤q)∧q+1≤W.heap.size∧Bel (low (q+1) X) (low (q+1) W)
section
variable {w X W W':World}{g:Nat}{lv:Value}{E:Nat}{r:RS}{q:Nat}{cs:Array Value}
theorem Bfn.start{W1:World}(hr:Rd W1 g lv r.1 E r.2)(hgl:g<w.heap.size)(cs:Array Value)(hb:w.grownBy W1 (some g)):Bfn w (W1.alloc (.cells cs 51)) (W1.alloc (.cells cs 51)) g lv E r W1.heap.size cs:=
 ⟨hr.keep ((Bel.rfl_ _).al _),Blk.new _ _ _,hb.trans (((Bel.rfl_ W1).al _).grown _),⟨hgl,hb.size⟩,by simp,Bel.rfl_ _⟩
theorem Bfn.keep(h:Bfn w X W g lv E r q cs)(hb:Bel W W'):Bfn w X W' g lv E r q cs:=by
 obtain⟨h1,h2,h4,h5,h6,h7⟩:=h;exact⟨h1.keep hb,h2.keep hb,h4.trans (hb.grown _),h5,Nat.le_trans h6 hb.size,h7.tr (b0S hb)⟩
theorem Bfn.grown{r':RS}(h:Bfn w X W g lv E r q cs)(hg:W.grownBy W' (some g))(hp:Rd W' g lv r'.1 E r'.2):Bfn w X W' g lv E r' q cs:=by
 obtain⟨h1,h2,h4,h5,h6,h7⟩:=h;exact⟨hp,h2.grown hg (by simp;omega),h4.trans hg,h5,Nat.le_trans h6 hg.size,h7.tr (b0M hg (by omega))⟩
theorem Bfn.fresh(h:Bfn w X W g lv E r q cs):Bfn w W W g lv E r q cs:=by
 obtain⟨h1,h2,h4,h5,h6,h7⟩:=h;exact⟨h1,h2,h4,h5,h6,Bel.rfl_ _⟩
theorem Bfn.lt(h:Bfn w X W g lv E r q cs):g<w.heap.size∧w.heap.size≤q:=h.2.2.2.1
theorem Bfn.size(h:Bfn w X W g lv E r q cs):q+1≤W.heap.size:=h.2.2.2.2.1
theorem Bfn.grew(h:Bfn w X W g lv E r q cs):w.grownBy W (some g):=h.2.2.1
theorem Bfn.low_(h:Bfn w X W g lv E r q cs):Bel (low (q+1) X) (low (q+1) W):=h.2.2.2.2.2
theorem Bfn.put(h:Bfn w X W g lv E r q cs)(i:Nat)(u:Value):Bfn w X (W.setCell ⟨q,i,none⟩ u) g lv E r q (cs.setIfInBounds i u):=by
 obtain⟨h1,h2,h4,h5,h6,h7⟩:=h;refine⟨Blk.far_ h1 (by omega) i u,h2.set_ i u,b2L h4 (by omega) i u,h5,?_,h7.tr (b0O W u (by omega))⟩
 simpa using h6
theorem Bfn.to{cs':Array Value}(h:Bfn w X W g lv E r q cs)(he:cs=cs'):Bfn w X W g lv E r q cs':=he▸h
theorem Bfn.rd(h:Bfn w X W g lv E r q cs):W.cell? ⟨g,3,none⟩=some (.bool r.2)∧W.frozen? ⟨g,3,none⟩=false:=⟨h.1.go.2.2.2.1,h.1.go.2.2.2.2.2⟩
theorem Bfn.cell(h:Bfn w X W g lv E r q cs)(i:Nat){v:Value}(hv:cs[i]? = some v):W.cell? ⟨q,i,none⟩=some v:=h.2.1.cell hv
theorem Bfn.frozen(h:Bfn w X W g lv E r q cs)(i:Nat):W.frozen? ⟨q,i,none⟩=false:=h.2.1.frozen i
theorem Bfn.bel(h:Bfn w X W g lv E r q cs){w0:World}(h0:Bel w0 w)(hg:w0.heap.size≤g):Bel w0 W:=b0U h0 hg h.grew
theorem Bfn.app{o:Option Nat}(h:Bfn w X W g lv E r q cs)(hg:W.grownBy W' o)(ho:∀k,o=some k→q+1≤k):Bfn w W' W' g lv E r q cs:=by
 obtain⟨h1,h2,h4,h5,h6,h7⟩:=h
 have hn:∀k,k≤q→some k≠o:=fun k hk e=>by
  have:=ho k e.symm;omega
 exact⟨Blk.grown h1 hg (hn g (by omega)),h2.grown hg (hn q (Nat.le_refl _)),⟨hg.os.trans h4.os,hg.tape.trans h4.tape,hg.output.trans h4.output,Nat.le_trans h4.size hg.size,fun x hx hne=>(hg.block x (Nat.lt_of_lt_of_le hx h4.size) (hn x (by omega))).trans (h4.block x hx hne)⟩,h5,Nat.le_trans h6 hg.size,Bel.rfl_ _⟩
end
end Go.Proofs.YtmfjlcpjemccmaaGreatDoor
