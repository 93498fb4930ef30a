/- Are there too many commands, by the program: walked. Each lemma states its own conditions. -/
import Derived.Test.YtmfjlcpjemccmaaGreatDoorSbk34
namespace Go.Proofs.YtmfjlcpjemccmaaGreatDoor
set_option maxRecDepth 20000
set_option maxHeartbeats 8000000
open Go.RowKit
theorem b5X(e:TE)(val:Value)(w:World)(h:TEV w e val):Calls Tryz.prog 98 #[val] w fun r w'=>r=.returned (.bool e.great)∧Bel w w':=by
 have HS:=Hi_ (fun W (hb:Bel w W)=>c5c e 15 val W (by decide) (by decide) (h.keep hb));obtain⟨v,rfl,-,A,c,rfl,-⟩:=h;have HG:Hid (e.great=decide (15<e.size 15)):=Hi_ rfl;have hle:=TE.size_le e 15 (by decide);generalize e.great=T at *;generalize e.size 15=z at *;generalize e.kind=k at *;generalize e.at_=a at *;generalize e.n=n at *;generalize e.name=s at *;have HB:=Hi_ ((Bel.rfl_ w).al (.cells #[.int .i64 k,.int .i64 a,.int .i64 n,.string s,.slice A e.args.length c] 49));go_enter Tryz.func98,Tryz.ntmps98;go_wp2_with fail
 refine(HS.out _ HB.out).mono ?_;rintro r w1 ⟨rfl,hb⟩;go_wp2;go_ret;exact⟨by rw[HG.out];rfl,HB.out.tr hb⟩
def MB(l:List TC)(d n:Int):Bool:=!(b1H l d && decide (n+b1S l≤40))
theorem c5z{l:List TC}{d n:Int}(h:MB l d n=false):n+b1S l≤40:=by
 unfold MB at h;rw[Bool.not_eq_false',Bool.and_eq_true] at h;exact of_decide_eq_true h.2
theorem c5m{l:List TC}{k:Nat}(h:l.length≤k){d n:Int}(hn:n≤40):MB (l.drop k) d n=false:=by
 unfold MB;rw[b9R h,b8W h,decide_eq_true (by omega)];rfl
theorem c7O{l:List TC}{k:Nat}{x:TC}(hx:l[k]? = some x){d n:Int}(h:x.fine d=false):MB (l.drop k) d n=true:=by
 unfold MB;rw[b3Q hx,h];simp
theorem c6J(x:TC):1≤x.cnt:=by rw[TC.cnt_eq];omega
theorem c7P{l:List TC}{k:Nat}{x:TC}(hx:l[k]? = some x){d n:Int}(h:40<n+1):MB (l.drop k) d n=true:=by
 unfold MB;have:=c6J x;rw[b3s hx,decide_eq_false (by omega),Bool.and_false];rfl
theorem c5y{l:List TC}(h:0<l.length){d n:Int}(hd:5<d):MB l d n=true:=by
 cases l with
 | nil=>simp at h
 | cons x xs =>
  unfold MB;rw[b1H,decide_eq_false (by omega)];rfl
theorem c7R{l:List TC}{k:Nat}{x:TC}(hx:l[k]? = some x){d n:Int}(h:MB x.thn (d+1) (n+1)=true):MB (l.drop k) d n=true:=by
 unfold MB at h ⊢;rw[b3Q hx,b3s hx,TC.fine_eq,TC.cnt_eq];cases hf:b1H x.thn (d+1) with
 | false=>simp
 | true =>
  rw[hf,Bool.true_and,Bool.not_eq_true'] at h;have:=of_decide_eq_false h;have hd:decide (n+((1+b1S x.thn+b1S x.els+b1S (l.drop (k+1)):Nat):Int)≤40)=false:=decide_eq_false (by omega);rw[hd,Bool.and_false];rfl
theorem c7Q{l:List TC}{k:Nat}{x:TC}(hx:l[k]? = some x){d n:Int}(h:MB x.els (d+1) (n+1+b1S x.thn)=true):MB (l.drop k) d n=true:=by
 unfold MB at h ⊢;rw[b3Q hx,b3s hx,TC.fine_eq,TC.cnt_eq];cases hf:b1H x.els (d+1) with
 | false=>simp
 | true =>
  rw[hf,Bool.true_and,Bool.not_eq_true'] at h;have:=of_decide_eq_false h;have hd:decide (n+((1+b1S x.thn+b1S x.els+b1S (l.drop (k+1)):Nat):Int)≤40)=false:=decide_eq_false (by omega);rw[hd,Bool.and_false];rfl
theorem c2n{l:List TC}{d n:Int}(h:MB l d n=false):b1H l d=true:=by
 unfold MB at h;rw[Bool.not_eq_false',Bool.and_eq_true] at h;exact h.1
theorem c8M{l:List TC}{k:Nat}{x:TC}(hx:l[k]? = some x){d n:Int}(hd:d≤5)(h1:x.index.great=false)(h2:x.expr.great=false)(h3:¬3<x.args.length)(h4:x.args.any TE.great=false)(ht:MB x.thn (d+1) (n+1)=false)(he:MB x.els (d+1) (n+1+b1S x.thn)=false) :
  MB (l.drop k) d n=MB (l.drop (k+1)) d (n+1+b1S x.thn+b1S x.els):=by
 have f1:=c2n ht;have f2:=c2n he;unfold MB;rw[b3Q hx,b3s hx,TC.fine_eq,TC.cnt_eq,h1,h2,h4,f1,f2,decide_eq_true hd,decide_eq_true (show x.args.length≤3 by omega)];simp only[Bool.not_false,Bool.and_self,Bool.true_and]
 congr 2
 exact decide_eq_decide.2 (by omega)
abbrev CT:TypeId:=146
def b5G(l:List TC)(d n:Int)(R:Nat)(w:World)(r:Ending)(w':World):Prop:=
 r=.returned (.bool (MB l d n))∧w.grownBy w' (some R)∧∃m:Int,Blk w' R CT #[.int .i64 m]∧(MB l d n=false→m=n+b1S l)
theorem b3A{l:List TC}{d n m:Int}{R:Nat}{w w':World}(h:true=MB l d n)(hg:w.grownBy w' (some R))(hc:Blk w' R CT #[.int .i64 m]):b5G l d n R w (.returned (.bool true)) w':=
 ⟨by rw[←h],hg,m,hc,fun e=>by rw[←h] at e;cases e⟩
theorem b7I(w0:World)(R:Nat)(hR:w0.heap.size≤R)(l:List TC)(d n0:Int)(v:Value)(w:World)(h:Sl tcR w0 v l)(h0:Bel w0 w)(hc0:Blk w R CT #[.int .i64 n0])(h1:1≤d)(h6:d≤6)(hn0:0≤n0)(hn1:n0≤40)
  (IH:∀x∈l,(∀(d n:Int) (v:Value) (W:World),Sl tcR w0 v x.thn→Bel w0 W→Blk W R CT #[.int .i64 n]→1≤d→d≤6→0≤n→n≤40→Calls Tryz.prog 99 #[.pointer (some ⟨R,0,none⟩),v,.int .i64 d] W fun r w'=>b5G x.thn d n R W r w') ∧
   (∀(d n:Int) (v:Value) (W:World),Sl tcR w0 v x.els→Bel w0 W→Blk W R CT #[.int .i64 n]→1≤d→d≤6→0≤n→n≤40→Calls Tryz.prog 99 #[.pointer (some ⟨R,0,none⟩),v,.int .i64 d] W fun r w'=>b5G x.els d n R W r w')) :
  Calls Tryz.prog 99 #[.pointer (some ⟨R,0,none⟩),v,.int .i64 d] w fun r w'=>b5G l d n0 R w r w':=by
 have HSL:=Hi_ h;have HI:=Hi_ IH;obtain⟨A,c,rfl,hcl,hm,-⟩:=h;have hll:l.length≤9223372036854775807:=by have:=hm.1;simp only[maxLen] at this;omega
 have HC0:=Hi_ hc0;have HB0:=Hi_ h0;have HRR:=Hi_ hR;clear hcl hm IH hc0 h0 hR;by_cases hl0:0<l.length∧5<d
 ·have dl:decide ((0:Int)<l.length)=true:=decide_eq_true (by omega);have dd:decide (5<d)=true:=decide_eq_true hl0.2;have HR:Hid (true=MB l d n0):=Hi_ (c5y hl0.1 hl0.2).symm;have dl2:decide (0<l.length)=true:=decide_eq_true hl0.1;have dl3:0<l.length:=hl0.1;clear hl0;go_enter Tryz.func99,Tryz.ntmps99;go_wp2;go_ret;exact b3A HR.out (World.grownBy.refl _ _) HC0.out
 have HRF:Hid (w.grownBy w (some R)):=Hi_ ((Bel.rfl_ w).grown _);rcases Nat.eq_zero_or_pos l.length with hl | hl
 ·obtain rfl:=List.eq_nil_of_length_eq_zero hl;have dl:decide ((0:Int)<(([]:List TC).length:Int))=false:=rfl;have HR:Hid (false=MB [] d n0):=Hi_ (c5m (l:=[]) (k:=0) (Nat.le_refl 0) hn1).symm;clear hl0 hl HI HSL;go_enter Tryz.func99,Tryz.ntmps99;go_wp2;go_loopw [18] (fun i wr=>i=.int .i64 0∧Hid (w=wr)) (fun _ _=>0)
  case atStart=>exact⟨rfl,Hi_ rfl⟩
  case round =>
   obtain⟨rfl,HW⟩:=hrel;obtain rfl:=HW.out;go_wp2;go_ret;exact⟨by rw[←HR.out];rfl,HRF.out,n0,HC0.out,fun _=>by rw[b1S];omega⟩
 have hd5:d≤5:=by omega
 have HT:Hid (MB (l.drop 0) d n0=MB l d n0):=Hi_ rfl;have HCN:Hid (MB l d n0=false→True):=Hi_ fun _=>trivial;have dl:decide (0<l.length)=true:=decide_eq_true hl;have dd:decide (5<d)=false:=decide_eq_false (by omega);have HSUM:Hid (n0+b1S (l.drop 0)=n0+b1S l):=Hi_ rfl;clear hl0 HCN;go_enter Tryz.func99,Tryz.ntmps99;go_wp2;clear dl dd;generalize hTT:MB l d n0=T at *;generalize hSS:n0+(b1S l:Int)=SM at *;go_loopw [18] (fun i wr=>∃(j:Nat) (n:Int),i=.int .i64 j∧j≤l.length∧0≤n∧n≤40∧Hid (MB (l.drop j) d n=T)∧Hid (n+b1S (l.drop j)=SM)∧Hid (w.grownBy wr (some R))∧Hid (Blk wr R CT #[.int .i64 n])) (fun i _=>l.length-(intOf i).toNat)
 case atStart=>exact⟨0,n0,rfl,Nat.zero_le _,hn0,hn1,HT,HSUM,HRF,HC0⟩
 case round =>
  obtain⟨j,n,rfl,hj,hn0',hn1',HS,HSM,HG,HC⟩:=hrel;obtain⟨WO,hWO⟩:∃W,W=wr:=⟨_,rfl⟩;subst hWO;have HB:=Hi_ (b0U HB0.out HRR.out HG.out);clear HT HRF HSUM HC0;by_cases hlt:j<l.length
  rotate_left
  ·have hdd:decide ((j:Int)<l.length)=false:=decide_eq_false (by omega);have HR:Hid (false=T):=Hi_ (by rw[←HS.out,c5m (by omega) hn1']);have HE:Hid (n=SM):=Hi_ (by rw[←HSM.out,b8W (by omega)];omega);go_wp2;go_ret;exact⟨by rw[hTT,←HR.out];rfl,HG.out,n,HC.out,fun _=>by rw[hSS];exact HE.out⟩
  have hdd:decide ((j:Int)<l.length)=true:=decide_eq_true (by omega);obtain⟨x,hx⟩:∃x,l[j]? = some x:=⟨_,List.getElem?_eq_getElem hlt⟩;obtain⟨b,o,cs,rfl,hcs,hca⟩:=c7w HSL.out hx;have HIX:=Hi_ (HI.out x (List.mem_of_getElem? hx));have HBAD:=Hi_ (fun(h:x.fine d=false)=>(c7O hx (n:=n) h).symm.trans HS.out);have HBIG:=Hi_ (fun(h:40<n+1)=>(c7P hx (d:=d) h).symm.trans HS.out);have HTT:=Hi_ (fun(h:MB x.thn (d+1) (n+1)=true)=>(c7R hx h).symm.trans HS.out);have HEE:=Hi_ (fun(h:MB x.els (d+1) (n+1+b1S x.thn)=true)=>(c7Q hx h).symm.trans HS.out);have HOKK:=Hi_ (fun h1 h2 h3 h4 h5 h6=>(c8M hx (d:=d) (n:=n) hd5 h1 h2 h3 h4 h5 h6).symm.trans HS.out);have HCX:Hid ((b1S (l.drop j):Int)=1+b1S x.thn+b1S x.els+b1S (l.drop (j+1))):=Hi_ (by rw[b3s hx,TC.cnt_eq];omega);have HBL:Hid (∀W,WO.grownBy W (some R)→Bel w0 W):=Hi_ fun W hg=>b0U HB.out HRR.out hg;have i0:(0:Int)≤j:=by omega
  have i1:(j:Int)<l.length:=by omega
  have HCS:=Hi_ hcs;have HCA:=Hi_ (hca.keep HB.out);have hRK:=HC.out.lt;clear hcs hca hx HS HI;go_upto_region 6 with(refine c0o (.tmp 20) (.tmp 8) (.tmp 21) rfl rfl rfl rfl rfl rfl b (o+j*17) (by exact rfl) cs HCA.out (HCS.out.keep HB.out) (by exact rfl) (by exact rfl) ?_);have HX:Hid (WO.grownBy (WO.alloc (.cells cs.toArray 53)) (some R)):=Hi_ (((Bel.rfl_ WO).al (.cells cs.toArray 53)).grown _);have HK:=Hi_ (Blk.new WO 53 cs.toArray);replace HC:=Hi_ (HC.out.keep ((Bel.rfl_ WO).al (.cells cs.toArray 53)));obtain⟨vi,ve,va,vt,vs,rfl,-,-,hin,hen,hsi,hse,hsa,hst,hsl⟩:=b4M HCS.out;clear HCS HCA;generalize hW1:WO.alloc _=W1 at *;clear hW1;generalize WO.heap.size=K at *;have HI1:Hid (∀W,Bel w0 W→Calls Tryz.prog 98 #[.agg #[.int .i64 x.index.kind,.int .i64 x.index.at_,.int .i64 x.index.n,.string x.index.name,vi]] W fun r w'=>r=.returned (.bool x.index.great)∧Bel W w'):=Hi_ fun W hb=>b5X x.index _ W ⟨_,rfl,hin,hsi.keep hb⟩;have HE1:Hid (∀W,Bel w0 W→Calls Tryz.prog 98 #[.agg #[.int .i64 x.expr.kind,.int .i64 x.expr.at_,.int .i64 x.expr.n,.string x.expr.name,ve]] W fun r w'=>r=.returned (.bool x.expr.great)∧Bel W w'):=Hi_ fun W hb=>b5X x.expr _ W ⟨_,rfl,hen,hse.keep hb⟩;have HA1:=Hi_ (fun W (hb:Bel w0 W)=>b7g TE.great x.args va W (hsa.keep hb) fun z _ cs W h=>b5X z _ W (TER.tev h));have HT1:=Hi_ (fun(hz:¬40<n+1) W (hb:Bel w0 W) (hc:Blk W R CT #[.int .i64 (n+1)])=>HIX.out.1 (d+1) (n+1) vt W hst hb hc (by omega) (by omega) (by omega) (by omega));have HL1:=Hi_ (fun(hz:MB x.thn (d+1) (n+1)=false) W (hb:Bel w0 W) (hc:Blk W R CT #[.int .i64 (n+1+b1S x.thn)])=>HIX.out.2 (d+1) (n+1+b1S x.thn) vs W hsl hb hc (by omega) (by omega) (by omega) (c5z hz));obtain⟨Ai,ci,rfl,-⟩:=hsi;obtain⟨Ae,ce,rfl,-⟩:=hse;obtain⟨Aa,ca,rfl,-⟩:=hsa;obtain⟨At,ct,rfl,-⟩:=hst;obtain⟨Al,cl,rfl,-⟩:=hsl;have hwd:IntKind.i64.wrap (d+1)=d+1:=by rw[IntKind.wrap_i64];omega
  clear hin hen HIX HB;generalize x.expr.kind=ek at *;generalize x.expr.at_=ea at *;generalize x.expr.n=en at *;generalize x.expr.name=es at *;generalize x.index.kind=ik at *;generalize x.index.at_=ia at *;generalize x.index.n=iN at *;generalize x.index.name=is_ at *;have cR:=HC.out.cell (i:=0) (v:=.int .i64 n) rfl;have fR:=HC.out.frozen 0;go_upto_region 7 with fail;clear cR fR;replace HX:=Hi_ (HX.out.trans (b0n W1 R 0 (.int .i64 (n+1))));replace HK:=Hi_ (HK.out.grown (b0n W1 R 0 (.int .i64 (n+1))) (by simp;omega));replace HC:Hid (Blk (W1.setCell ⟨R,0,none⟩ (.int .i64 (n+1))) R CT #[.int .i64 (n+1)]):=Hi_ (HC.out.set_ 0 (.int .i64 (n+1)));generalize W1.setCell ⟨R,0,none⟩ (.int .i64 (n+1))=W2 at *;refine b0E ?_;try dsimp only[List.append]
  refine b0V 3 29 [.pointer (some ⟨R,0,none⟩),.pointer (some ⟨R,0,none⟩),.pointer (some ⟨R,0,none⟩)] ?_;refine b0R (some 32) _ (b1D (HC.out.cell (i:=0) (v:=.int .i64 (n+1)) rfl)) ?_;by_cases hzN:40<(n+1)
  ·have dzN:decide ((40:Int)<(n+1))=true:=decide_eq_true hzN;have HR:Hid (true=T):=Hi_ (HBIG.out hzN);refine b0R (some 33) (.bool true) (b0f rfl (by kernel_rfl) (by kernel_rfl) dzN) ?_;refine b0V 21 34 [.bool true,uD,uD,uD,.bool true,.bool true,uD,uD,uD,.bool true,.bool true,uD,uD,uD,uD,.bool true,.bool true,uD,uD,uD,.bool true] ?_;refine b0C ?_;try simp only[sP,Act.put,lA,lB,lC]
   go_wp2;go_ret;exact b3A (HR.out.trans hTT.symm) (HG.out.trans HX.out) HC.out
  have dzN:decide ((40:Int)<(n+1))=false:=decide_eq_false hzN;refine b0R (some 33) (.bool false) (b0f rfl (by kernel_rfl) (by kernel_rfl) dzN) ?_;refine b0V 2 34 [.bool false,.pointer (some ⟨K,4,none⟩)] ?_;refine b0R (some 36) _ (b0B 49 (.tmp 35) rfl b2R K 4 (by kernel_rfl) [.int .i64 ik,.int .i64 ia,.int .i64 iN,.string is_,.slice Ai x.index.args.length ci] (b0b HK.out 4 rfl) rfl (by kernel_rfl)) ?_;refine b0W (some 37) 98 #[.agg #[.int .i64 ik,.int .i64 ia,.int .i64 iN,.string is_,.slice Ai x.index.args.length ci]] (HI1.out _ (HBL.out _ HX.out)) ?_;rintro r W3 ⟨rfl,hb⟩;replace HX:=Hi_ (HX.out.trans (hb.grown _));replace HK:=Hi_ (HK.out.keep hb);replace HC:=Hi_ (HC.out.keep hb);clear hb;refine⟨_,rfl,?_⟩;cases heI:x.index.great with
  | true =>
   have HR:Hid (true=T):=Hi_ (HBAD.out (c0u heI));refine b0V 17 38 [.bool true,.bool true,uD,uD,uD,.bool true,.bool true,uD,uD,uD,uD,.bool true,.bool true,uD,uD,uD,.bool true] ?_;refine b0C ?_;try simp only[sP,Act.put,lA,lB,lC]
   go_wp2;go_ret;exact b3A (HR.out.trans hTT.symm) (HG.out.trans HX.out) HC.out
  | false =>
   refine b0V 3 38 [.bool false,.bool false,.pointer (some ⟨K,9,none⟩)] ?_;refine b0R (some 41) _ (b0B 49 (.tmp 40) rfl b2R K 9 (by kernel_rfl) [.int .i64 ek,.int .i64 ea,.int .i64 en,.string es,.slice Ae x.expr.args.length ce] (b0b HK.out 9 rfl) rfl (by kernel_rfl)) ?_;refine b0W (some 42) 98 #[.agg #[.int .i64 ek,.int .i64 ea,.int .i64 en,.string es,.slice Ae x.expr.args.length ce]] (HE1.out _ (HBL.out _ HX.out)) ?_;rintro r W3 ⟨rfl,hb⟩;replace HX:=Hi_ (HX.out.trans (hb.grown _));replace HK:=Hi_ (HK.out.keep hb);replace HC:=Hi_ (HC.out.keep hb);clear hb;refine⟨_,rfl,?_⟩;cases heE:x.expr.great with
   | true =>
    have HR:Hid (true=T):=Hi_ (HBAD.out (c0t heE));refine b0V 12 43 [.bool true,.bool true,uD,uD,uD,uD,.bool true,.bool true,uD,uD,uD,.bool true] ?_;refine b0C ?_;try simp only[sP,Act.put,lA,lB,lC]
    go_wp2;go_ret;exact b3A (HR.out.trans hTT.symm) (HG.out.trans HX.out) HC.out
   | false =>
    refine b0V 3 43 [.bool false,.bool false,.pointer (some ⟨K,14,none⟩)] ?_;refine b0R (some 46) _ (b1N (HK.out.cell (i:=14) (v:=.slice Aa x.args.length ca) rfl)) ?_;refine b0P (some 47) (.int .i64 x.args.length) ?_;by_cases hzA:3<x.args.length
    ·have dzA:decide ((3:Int)<x.args.length)=true:=decide_eq_true (by omega);have HR:Hid (true=T):=Hi_ (HBAD.out (c0v (by omega)));refine b0R (some 48) (.bool true) (b0f rfl (by kernel_rfl) (by kernel_rfl) dzA) ?_;refine b0V 6 49 [.bool true,.bool true,uD,uD,uD,.bool true] ?_;refine b0C ?_;try simp only[sP,Act.put,lA,lB,lC]
     go_wp2;go_ret;exact b3A (HR.out.trans hTT.symm) (HG.out.trans HX.out) HC.out
    have dzA:decide ((3:Int)<x.args.length)=false:=decide_eq_false (by omega);refine b0R (some 48) (.bool false) (b0f rfl (by kernel_rfl) (by kernel_rfl) dzA) ?_;refine b0V 3 49 [.bool false,.bool false,.pointer (some ⟨K,14,none⟩)] ?_;refine b0R (some 52) _ (b1N (HK.out.cell (i:=14) (v:=.slice Aa x.args.length ca) rfl)) ?_;refine b0W (some 53) 149 #[.slice Aa x.args.length ca,.func (.func 98) #[] #[]] (HA1.out _ (HBL.out _ HX.out)) ?_;rintro r W3 ⟨rfl,hb⟩;replace HX:=Hi_ (HX.out.trans (hb.grown _));replace HK:=Hi_ (HK.out.keep hb);replace HC:=Hi_ (HC.out.keep hb);clear hb;refine⟨_,rfl,?_⟩;cases heA:x.args.any TE.great with
    | true =>
     have HR:Hid (true=T):=Hi_ (HBAD.out (c0w heA));refine b0P (some 54) (.bool true) ?_;refine b0C ?_;try simp only[sP,Act.put,lA,lB,lC]
     go_wp2;go_ret;exact b3A (HR.out.trans hTT.symm) (HG.out.trans HX.out) HC.out
    | false =>
     refine b0P (some 54) (.bool false) ?_;refine b0C ?_;try simp only[sP,Act.put,lA,lB,lC]
     go_upto_region 9 with fail;refine b0E ?_;try dsimp only[List.append]
     refine b0V 2 55 [.pointer (some ⟨R,0,none⟩),.pointer (some ⟨K,15,none⟩)] ?_;refine b0R (some 57) _ (b1B (HK.out.cell (i:=15) (v:=.slice At x.thn.length ct) rfl)) ?_;refine b0P (some 58) (.int .i64 d) ?_;refine b0R (some 59) (.int .i64 (d+1)) (Eq.trans (b:=.ok (.value (.int .i64 (IntKind.i64.wrap (d+1)))) _) (by kernel_rfl) (by rw[hwd])) ?_;refine b0W (some 60) 99 #[.pointer (some ⟨R,0,none⟩),.slice At x.thn.length ct,.int .i64 (d+1)] (HT1.out hzN _ (HBL.out _ HX.out) HC.out) ?_;rintro r W3 ⟨rfl,hg,m,hm1,hm2⟩;replace HX:=Hi_ (HX.out.trans hg);replace HK:=Hi_ (HK.out.grown hg (by simp;omega));replace HC:=Hi_ hm1;clear hg hm1;refine⟨_,rfl,?_⟩;cases hM:MB x.thn (d+1) (n+1) with
     | true =>
      have HR:Hid (true=T):=Hi_ (HTT.out hM);refine b0V 8 61 [.bool true,uD,uD,uD,uD,uD,uD,.bool true] ?_;refine b0C ?_;try simp only[sP,Act.put,lA,lB,lC]
      go_wp2;go_ret;exact b3A (HR.out.trans hTT.symm) (HG.out.trans HX.out) HC.out
     | false =>
      obtain rfl:=hm2 hM;have ht:=hM;clear hM;refine b0V 3 61 [.bool false,.pointer (some ⟨R,0,none⟩),.pointer (some ⟨K,16,none⟩)] ?_;refine b0R (some 64) _ (b1B (HK.out.cell (i:=16) (v:=.slice Al x.els.length cl) rfl)) ?_;refine b0P (some 65) (.int .i64 d) ?_;refine b0R (some 66) (.int .i64 (d+1)) (Eq.trans (b:=.ok (.value (.int .i64 (IntKind.i64.wrap (d+1)))) _) (by kernel_rfl) (by rw[hwd])) ?_;refine b0W (some 67) 99 #[.pointer (some ⟨R,0,none⟩),.slice Al x.els.length cl,.int .i64 (d+1)] (HL1.out ht _ (HBL.out _ HX.out) HC.out) ?_;rintro r W3 ⟨rfl,hg,m,hm1,hm2⟩;replace HX:=Hi_ (HX.out.trans hg);replace HK:=Hi_ (HK.out.grown hg (by simp;omega));replace HC:=Hi_ hm1;clear hg hm1;refine⟨_,rfl,?_⟩;cases hM:MB x.els (d+1) (n+1+b1S x.thn) with
      | true =>
       have HR:Hid (true=T):=Hi_ (HEE.out hM);refine b0P (some 68) (.bool true) ?_;refine b0C ?_;try simp only[sP,Act.put,lA,lB,lC]
       go_wp2;go_ret;exact b3A (HR.out.trans hTT.symm) (HG.out.trans HX.out) HC.out
      | false =>
       obtain rfl:=hm2 hM;have he:=hM;clear hM;refine b0P (some 68) (.bool false) ?_;refine b0C ?_;try simp only[sP,Act.put,lA,lB,lC]
       have HN2:Hid (MB (l.drop (j+1)) d (n+1+b1S x.thn+b1S x.els)=T):=Hi_ (HOKK.out heI heE hzA heA ht he);have hn40:=c5z he;have HSM2:Hid (n+1+b1S x.thn+b1S x.els+b1S (l.drop (j+1))=SM):=Hi_ (by rw[←HSM.out,HCX.out];omega);go_wp2;go_roundw
       case rel=>exact⟨j+1,_,by go_num,by omega,by omega,hn40,HN2,HSM2,Hi_ (HG.out.trans HX.out),HC⟩
       case measure=>simp[intOf];omega
theorem c5M(w0:World)(R:Nat)(hR:w0.heap.size≤R):∀x:TC,(∀(d n:Int) (v:Value) (W:World),Sl tcR w0 v x.thn→Bel w0 W→Blk W R CT #[.int .i64 n]→1≤d→d≤6→0≤n→n≤40→Calls Tryz.prog 99 #[.pointer (some ⟨R,0,none⟩),v,.int .i64 d] W fun r w'=>b5G x.thn d n R W r w') ∧
   (∀(d n:Int) (v:Value) (W:World),Sl tcR w0 v x.els→Bel w0 W→Blk W R CT #[.int .i64 n]→1≤d→d≤6→0≤n→n≤40→Calls Tryz.prog 99 #[.pointer (some ⟨R,0,none⟩),v,.int .i64 d] W fun r w'=>b5G x.els d n R W r w'):=by
 intro x;induction x using TC.ind with
 | h k a s t i e args thn els ih1 ih2=>exact⟨fun d n v W h hb hc h1 h6 h0 h4=>b7I w0 R hR thn d n v W h hb hc h1 h6 h0 h4 ih1,fun d n v W h hb hc h1 h6 h0 h4=>b7I w0 R hR els d n v W h hb hc h1 h6 h0 h4 ih2⟩
theorem c5N(w0:World)(R:Nat)(hR:w0.heap.size≤R)(l:List TC)(d n:Int)(v:Value)(W:World)(h:Sl tcR w0 v l)(hb:Bel w0 W)(hc:Blk W R CT #[.int .i64 n])(h1:1≤d)(h6:d≤6)(h0:0≤n)(h4:n≤40) :
  Calls Tryz.prog 99 #[.pointer (some ⟨R,0,none⟩),v,.int .i64 d] W fun r w'=>b5G l d n R W r w':=
 b7I w0 R hR l d n v W h hb hc h1 h6 h0 h4 fun x _=>c5M w0 R hR x
end Go.Proofs.YtmfjlcpjemccmaaGreatDoor
