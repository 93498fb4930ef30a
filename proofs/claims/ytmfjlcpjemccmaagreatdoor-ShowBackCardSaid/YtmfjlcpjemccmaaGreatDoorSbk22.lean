/- Are two expressions the same, by the program: walked. Each lemma states its own conditions. -/
import Derived.Test.YtmfjlcpjemccmaaGreatDoorSbk21
namespace Go.Proofs.YtmfjlcpjemccmaaGreatDoor
set_option maxRecDepth 20000
set_option maxHeartbeats 4000000
open Go.RowKit
theorem b3V{w:World}{g:Nat}{t:TypeId}{cs:List Value}(h:Blk w g t cs.toArray):b0x w g 0 cs:=fun j u hu=>by
 rw[Nat.zero_add];exact h.cell (by simpa using hu)
theorem b3M(w:World)(o:Obj):(w.alloc o).heap.size=w.heap.size+1:=by simp
theorem c0W{W:World}{cs:List Value}{x:TE}(h:teR.R W cs x):∀u∈cs,u.oneCell'=true:=by
 obtain⟨k,a,n,s,args⟩:=x;obtain⟨v,rfl,-,A,c,rfl,-⟩:=TER.opened h;intro u hu;simp only[List.mem_cons,List.not_mem_nil,or_false] at hu;rcases hu with rfl | rfl | rfl | rfl | rfl<;>rfl
theorem b9Q(xs ys:List TE)(va vb:Value)(w:World)(ha:Sl teR w va xs)(hb:Sl teR w vb ys)
  (IH:∀x∈xs,∀(y:TE) (cs cs':List Value) (W:World),teR.R W cs x→teR.R W cs' y→Calls Tryz.prog 88 #[.agg cs.toArray,.agg cs'.toArray] W fun r w'=>r=.returned (.bool (x.same false y))∧Bel W w') :
  Calls Tryz.prog 137 #[va,vb,.func (.func 88) #[] #[]] w fun r w'=>r=.returned (.bool (b0q false xs ys))∧Bel w w':=by
 have HSA:=Hi_ ha;have HSB:=Hi_ hb;obtain⟨A,c,rfl,hc,hm,-⟩:=ha;obtain⟨B,d,rfl,hd,hm2,-⟩:=hb;have HI:=Hi_ IH;have hl1:xs.length≤9223372036854775807:=by have:=hm.1;simp only[maxLen] at this;omega
 have hl2:ys.length≤9223372036854775807:=by have:=hm2.1;simp only[maxLen] at this;omega
 clear IH hm hm2 hc hd;by_cases hlen:xs.length=ys.length
 rotate_left
 ·have HT:=Hi_ (b8A (f:=false) hlen);have d0:((xs.length:Int) != ys.length)=true:=by simp;omega
  clear hlen;go_enter Tryz.func137,Tryz.ntmps137;go_wp2;go_ret;exact⟨by rw[HT.out];rfl,Bel.rfl_ w⟩
 ·have d0:((xs.length:Int) != ys.length)=false:=by simp;omega
  have HT:Hid (b0q false (xs.drop 0) (ys.drop 0)=b0q false xs ys):=Hi_ rfl;have HRF:=Hi_ (Bel.rfl_ w);have HLE:=Hi_ hlen;generalize b0q false xs ys=T at *;clear hlen;go_enter Tryz.func137,Tryz.ntmps137;go_wp2;go_loopw [17] (fun t wr=>∃j:Nat,j≤xs.length∧t=.int .i64 j∧Hid (b0q false (xs.drop j) (ys.drop j)=T)∧Hid (Bel w wr)) (fun t _=>xs.length-(intOf t).toNat)
  case atStart=>exact⟨0,by omega,rfl,HT,HRF⟩
  case round =>
   obtain⟨j,hj,rfl,HS,HB⟩:=hrel;obtain⟨WO,hWO⟩:∃W,W=wr:=⟨_,rfl⟩;subst hWO;clear HT HRF;by_cases hlt:j<xs.length
   ·have hdd:decide ((j:Int)<xs.length)=true:=decide_eq_true (by omega);have hlt2:j<ys.length:=by have:=HLE.out;omega
    obtain⟨x,hx⟩:∃x,xs[j]? = some x:=⟨_,List.getElem?_eq_getElem hlt⟩;obtain⟨y,hy⟩:∃y,ys[j]? = some y:=⟨_,List.getElem?_eq_getElem hlt2⟩;obtain⟨b,o,rfl,hA⟩:=(HSA.out.keep HB.out).lies (by omega);obtain⟨b',o',rfl,hB⟩:=(HSB.out.keep HB.out).lies (by omega);obtain⟨cs,hcs,hca⟩:=hA j x hx;obtain⟨cs',hcs',hca'⟩:=hB j y hy;have HIX:=Hi_ (fun W (hb:Bel WO W)=>HI.out x (List.mem_of_getElem? hx) y cs cs' W (teR.keep hb hcs) (teR.keep hb hcs'));have HD:Hid ((x.same false y && b0q false (xs.drop (j+1)) (ys.drop (j+1)))=T):=Hi_ (by rw[←c0P hx hy];exact HS.out);have i0:(0:Int)≤j:=by omega
    have i1:(j:Int)<xs.length:=by omega
    have i2:(j:Int)<ys.length:=by omega
    have HL:=Hi_ (teR.len hcs);have HON:=Hi_ (c0W hcs);have HCA:Hid (b0x WO b (o+j*5) cs):=Hi_ hca;have HL':=Hi_ (teR.len hcs');have HON':=Hi_ (c0W hcs');have HCA':Hid (b0x WO b' (o'+j*5) cs'):=Hi_ hca';clear hcs hca hcs' hca' hx hy HI HS hA hB;go_upto_region 5 with fail;refine b0E ?_;try dsimp only[List.append]
    refine b0P (some 19) (.int .i64 j) ?_;refine b0R (some 20) (.pointer (some ⟨b,o+j*5,none⟩)) (by go_simp) ?_;refine b0R (some 21) _ (b0B 49 (.tmp 20) rfl b2R b (o+j*5) (by kernel_rfl) cs HCA.out HL.out (by kernel_rfl)) ?_;refine b2X (some 8) rfl 49 rfl rfl b2R fun z hz=>?_;refine b0P (some 7) (.int .i64 j) ?_;refine b2Y none rfl 49 (.tmp 8) (.tmp 21) rfl rfl b2R WO.heap.size cs (by kernel_rfl) (by kernel_rfl) (Blk.new WO 49 z) hz HL.out HON.out ?_;have HX:Hid (Bel WO ((WO.alloc (.cells z 49)).setRow WO.heap.size cs.toArray)):=Hi_ (((Bel.rfl_ WO).al _).row (Nat.le_refl _) _);have HK1:=Hi_ ((Blk.new WO 49 z).row_same cs.toArray);clear hz;generalize(WO.alloc (.cells z 49)).setRow WO.heap.size cs.toArray=W1 at *;generalize WO.heap.size=G1 at *;refine b0C ?_;try simp only[Act.put,lA,lB,lC]
    go_upto_region 6 with fail;refine b0E ?_;try dsimp only[List.append]
    refine b0P (some 22) (.slice (some ⟨b',o',none⟩) ys.length d) ?_;refine b0P (some 23) (.int .i64 j) ?_;refine b0R (some 24) (.pointer (some ⟨b',o'+j*5,none⟩)) (by go_simp) ?_;refine b0R (some 25) _ (b0B 49 (.tmp 24) rfl b2R b' (o'+j*5) (by kernel_rfl) cs' (HCA'.out.keep HX.out) HL'.out (by kernel_rfl)) ?_;refine b2X (some 9) rfl 49 rfl rfl b2R fun z hz=>?_;refine b2Y none rfl 49 (.tmp 9) (.tmp 25) rfl rfl b2R W1.heap.size cs' (by kernel_rfl) (by kernel_rfl) (Blk.new W1 49 z) hz HL'.out HON'.out ?_;have HX2:Hid (Bel W1 ((W1.alloc (.cells z 49)).setRow W1.heap.size cs'.toArray)):=Hi_ (((Bel.rfl_ W1).al _).row (Nat.le_refl _) _);have HK2:=Hi_ ((Blk.new W1 49 z).row_same cs'.toArray);clear hz;generalize(W1.alloc (.cells z 49)).setRow W1.heap.size cs'.toArray=W2 at *;generalize W1.heap.size=G2 at *;replace HK1:=Hi_ (HK1.out.keep HX2.out);replace HX:=Hi_ (HX.out.tr HX2.out);clear HX2;refine b0C ?_;try simp only[Act.put,lA,lB,lC]
    go_upto_region 7 with fail;refine b0E ?_;try dsimp only[List.append]
    refine b0P (some 26) (.func (.func 88) #[] #[]) ?_;refine b0R (some 27) _ (b0B 49 (.tmp 8) rfl b2R G1 0 (by kernel_rfl) cs (b3V HK1.out) HL.out (by kernel_rfl)) ?_;refine b0R (some 28) _ (b0B 49 (.tmp 9) rfl b2R G2 0 (by kernel_rfl) cs' (b3V HK2.out) HL'.out (by kernel_rfl)) ?_;refine b0W (some 29) 88 #[.agg cs.toArray,.agg cs'.toArray] (HIX.out _ HX.out) ?_;rintro r W3 ⟨rfl,hb⟩;replace HX:=Hi_ (HX.out.tr hb);clear hb HK1 HK2;refine⟨_,rfl,?_⟩;generalize x.same false y=sm at *;refine b0P (some 30) (.bool (!sm)) ?_;refine b0C ?_;try simp only[Act.put,lA,lB,lC]
    cases sm with
    | true =>
     have HD2:Hid (b0q false (xs.drop (j+1)) (ys.drop (j+1))=T):=Hi_ (by rw[←HD.out,Bool.true_and]);go_wp2;go_roundw
     case rel=>exact⟨j+1,by omega,by go_num,HD2,Hi_ (HB.out.tr HX.out)⟩
     case measure=>simp[intOf];omega
    | false =>
     have HD2:Hid (false=T):=Hi_ (by rw[←HD.out,Bool.false_and]);go_wp2;go_ret;exact⟨by rw[←HD2.out];rfl,HB.out.tr HX.out⟩
   ·obtain rfl:j=xs.length:=by omega
    have hdd:decide ((xs.length:Int)<xs.length)=false:=decide_eq_false (by omega);have HR:Hid (true=T):=Hi_ (by rw[←HS.out,c2N (Nat.le_refl _) (by rw[HLE.out];exact Nat.le_refl _)]);go_wp2;go_ret;exact⟨by rw[←HR.out];rfl,HB.out⟩
theorem c2R(x y:TE)(va vb:Value)(w:World)(ha:TEV w x va)(hb:TEV w y vb)
  (IH:∀z∈x.args,∀(y:TE) (va vb:Value) (W:World),TEV W z va→TEV W y vb→Calls Tryz.prog 88 #[va,vb] W fun r w'=>r=.returned (.bool (z.same false y))∧Bel W w') :
  Calls Tryz.prog 88 #[va,vb] w fun r w'=>r=.returned (.bool (x.same false y))∧Bel w w':=by
 obtain⟨va,rfl,nx,sx⟩:=ha;obtain⟨vb,rfl,ny,sy⟩:=hb;have HFA:=Hi_ (fun W (hb:Bel w W)=>b9Q x.args y.args va vb W (sx.keep hb) (sy.keep hb) fun z hz y cs cs' W h1 h2=>IH z hz y _ _ W (TER.tev h1) (TER.tev h2));have HE:Hid ((decide (x.kind=y.kind) && (decide (x.n=y.n) && (decide (x.name=y.name) && b0q false x.args y.args)))=x.same false y):=Hi_ (by rw[TE.same_eq];simp);obtain⟨A,ac,rfl,-⟩:=sx;obtain⟨B,bc,rfl,-⟩:=sy;clear nx ny IH;generalize x.same false y=T at *;generalize b0q false x.args y.args=bA at *;generalize x.kind=xk at *;generalize x.at_=xa at *;generalize x.n=xn at *;generalize x.name=xs at *;generalize y.kind=yk at *;generalize y.at_=ya at *;generalize y.n=yn at *;generalize y.name=ys at *;have HK1:=Hi_ ((Blk.new w 49 #[.int .i64 xk,.int .i64 xa,.int .i64 xn,.string xs,.slice A x.args.length ac]).keep ((Bel.rfl_ _).al (.cells #[.int .i64 yk,.int .i64 ya,.int .i64 yn,.string ys,.slice B y.args.length bc] 49)));have HK2:=Hi_ (Blk.new (w.alloc (.cells #[.int .i64 xk,.int .i64 xa,.int .i64 xn,.string xs,.slice A x.args.length ac] 49)) 49 #[.int .i64 yk,.int .i64 ya,.int .i64 yn,.string ys,.slice B y.args.length bc]);rw[b3M] at HK2;have HX:=Hi_ (((Bel.rfl_ w).al (.cells #[.int .i64 xk,.int .i64 xa,.int .i64 xn,.string xs,.slice A x.args.length ac] 49)).al (.cells #[.int .i64 yk,.int .i64 ya,.int .i64 yn,.string ys,.slice B y.args.length bc] 49));go_enter Tryz.func88,Tryz.ntmps88;go_upto_region 1 with fail;generalize(w.alloc (.cells #[.int .i64 xk,.int .i64 xa,.int .i64 xn,.string xs,.slice A x.args.length ac] 49)).alloc (.cells #[.int .i64 yk,.int .i64 ya,.int .i64 yn,.string ys,.slice B y.args.length bc] 49)=W0 at *;generalize w.heap.size+1=G2 at *;generalize w.heap.size=G1 at *;refine b0E ?_;try dsimp only[List.append]
 refine b0P (some 5) (.pointer (some ⟨G1,0,none⟩)) ?_;refine b0R (some 6) _ (b1D (HK1.out.cell (i:=0) (v:=.int .i64 xk) rfl)) ?_;refine b0P (some 7) (.pointer (some ⟨G2,0,none⟩)) ?_;refine b0R (some 8) _ (b1D (HK2.out.cell (i:=0) (v:=.int .i64 yk) rfl)) ?_;by_cases h_k:xk=yk
 rotate_left
 ·have d_k:(xk==yk)=false:=by simpa using h_k
  rw[decide_eq_false h_k,Bool.false_and] at HE;refine b0R (some 9) (.bool false) (b4a rfl (by kernel_rfl) (by kernel_rfl) d_k) ?_;refine b0V 21 10 [.bool false,uD,uD,uD,uD,uD,.bool false,.bool false,uD,uD,uD,uD,uD,.bool false,.bool false,uD,uD,uD,uD,uD,.bool false] ?_;refine b0P (some 4) (.bool false) ?_;refine b0C ?_;try simp only[sP,Act.put,lA,lB,lC]
  go_wp2;go_ret;exact⟨by rw[←HE.out];rfl,HX.out⟩
 have d_k:(xk==yk)=true:=by simpa using h_k
 rw[decide_eq_true h_k,Bool.true_and] at HE;refine b0R (some 9) (.bool true) (b4a rfl (by kernel_rfl) (by kernel_rfl) d_k) ?_;refine b0V 2 10 [.bool true,.pointer (some ⟨G1,2,none⟩)] ?_;refine b0R (some 12) _ (b1D (HK1.out.cell (i:=2) (v:=.int .i64 xn) rfl)) ?_;refine b0P (some 13) (.pointer (some ⟨G2,2,none⟩)) ?_;refine b0R (some 14) _ (b1D (HK2.out.cell (i:=2) (v:=.int .i64 yn) rfl)) ?_;by_cases h_n:xn=yn
 rotate_left
 ·have d_n:(xn==yn)=false:=by simpa using h_n
  rw[decide_eq_false h_n,Bool.false_and] at HE;refine b0R (some 15) (.bool false) (b4a rfl (by kernel_rfl) (by kernel_rfl) d_n) ?_;refine b0V 15 16 [.bool false,.bool false,uD,uD,uD,uD,uD,.bool false,.bool false,uD,uD,uD,uD,uD,.bool false] ?_;refine b0P (some 4) (.bool false) ?_;refine b0C ?_;try simp only[sP,Act.put,lA,lB,lC]
  go_wp2;go_ret;exact⟨by rw[←HE.out];rfl,HX.out⟩
 have d_n:(xn==yn)=true:=by simpa using h_n
 rw[decide_eq_true h_n,Bool.true_and] at HE;refine b0R (some 15) (.bool true) (b4a rfl (by kernel_rfl) (by kernel_rfl) d_n) ?_;refine b0V 3 16 [.bool true,.bool true,.pointer (some ⟨G1,3,none⟩)] ?_;refine b0R (some 19) _ (b0c (HK1.out.cell (i:=3) (v:=.string xs) rfl)) ?_;refine b0P (some 20) (.pointer (some ⟨G2,3,none⟩)) ?_;refine b0R (some 21) _ (b0c (HK2.out.cell (i:=3) (v:=.string ys) rfl)) ?_;by_cases h_s:xs=ys
 rotate_left
 ·have d_s:(xs.toList==ys.toList)=false:=b2U h_s;rw[decide_eq_false h_s,Bool.false_and] at HE;refine b0R (some 22) (.bool false) (b3p rfl (by kernel_rfl) (by kernel_rfl) d_s) ?_;refine b0V 8 23 [.bool false,.bool false,uD,uD,uD,uD,uD,.bool false] ?_;refine b0P (some 4) (.bool false) ?_;refine b0C ?_;try simp only[sP,Act.put,lA,lB,lC]
  go_wp2;go_ret;exact⟨by rw[←HE.out];rfl,HX.out⟩
 have d_s:(xs.toList==ys.toList)=true:=b2x h_s;rw[decide_eq_true h_s,Bool.true_and] at HE;refine b0R (some 22) (.bool true) (b3p rfl (by kernel_rfl) (by kernel_rfl) d_s) ?_;refine b0V 3 23 [.bool true,.bool true,.pointer (some ⟨G1,4,none⟩)] ?_;refine b0R (some 26) _ (b1N (HK1.out.cell (i:=4) (v:=.slice A x.args.length ac) rfl)) ?_;refine b0P (some 27) (.pointer (some ⟨G2,4,none⟩)) ?_;refine b0R (some 28) _ (b1N (HK2.out.cell (i:=4) (v:=.slice B y.args.length bc) rfl)) ?_;refine b0W (some 29) 137 #[.slice A x.args.length ac,.slice B y.args.length bc,.func (.func 88) #[] #[]] (HFA.out _ HX.out) ?_;rintro r W3 ⟨rfl,hb⟩;replace HX:=Hi_ (HX.out.tr hb);replace HK1:=Hi_ (HK1.out.keep hb);replace HK2:=Hi_ (HK2.out.keep hb);clear hb;refine⟨_,rfl,?_⟩;cases bA with
 | false =>
  refine b0P (some 30) (.bool false) ?_;refine b0P (some 4) (.bool false) ?_;refine b0C ?_;try simp only[sP,Act.put,lA,lB,lC]
  go_wp2;go_ret;exact⟨by rw[←HE.out];rfl,HX.out⟩
 | true =>
  refine b0P (some 30) (.bool true) ?_;refine b0P (some 4) (.bool true) ?_;refine b0C ?_;try simp only[sP,Act.put,lA,lB,lC]
  go_wp2;go_ret;exact⟨by rw[←HE.out];rfl,HX.out⟩
theorem b5h:∀(x y:TE) (va vb:Value) (w:World),TEV w x va→TEV w y vb→Calls Tryz.prog 88 #[va,vb] w fun r w'=>r=.returned (.bool (x.same false y))∧Bel w w':=
 TE.ind fun k a n s args ih y va vb w ha hb=>c2R (.mk k a n s args) y va vb w ha hb fun z hz=>ih z hz
theorem c6L(xs ys:List TE)(va vb:Value)(w:World)(ha:Sl teR w va xs)(hb:Sl teR w vb ys):Calls Tryz.prog 137 #[va,vb,.func (.func 88) #[] #[]] w fun r w'=>r=.returned (.bool (b0q false xs ys))∧Bel w w':=
 b9Q xs ys va vb w ha hb fun x _ y _ _ W h1 h2=>b5h x y _ _ W (TER.tev h1) (TER.tev h2)
end Go.Proofs.YtmfjlcpjemccmaaGreatDoor
