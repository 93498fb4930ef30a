/- Are two trees the same, by the document: walked. Each lemma states its own conditions. -/
import Derived.Test.YtmfjlcpjemccmaaGreatDoorSbk23
namespace Go.Proofs.YtmfjlcpjemccmaaGreatDoor
set_option maxRecDepth 20000
set_option maxHeartbeats 4000000
open Go.RowKit
theorem c6p{o:Oper}{ρ:Operand→Value}{W:World}{x y:Operand}{t2:TypeId}{k l:Int}{s u:ByteArray}{c d:Bool}(ho:o.op=.binOp .neq 55 x y t2)(hx:ρ x=.agg #[.string s,.int .i64 k])(hy:ρ y=.agg #[.string u,.int .i64 l])(h1:(s.toList==u.toList)=c)(h2:(k==l)=d) :
  (execOp ρ o).run Tryz.prog W=.ok (.value (.bool (!(c && d)))) W:=by
 subst h1 h2;simp[execOp,ho,hx,hy,go_sem];by_cases e1:s.toList=u.toList
 ·by_cases e2:k=l
  ·simp[e1,e2]
  ·simp[e1,e2]
 ·simp[e1]
theorem b9W{α:Type}[DecidableEq α]{xs ys:List α}{k:Nat}{x y:α}(hx:xs[k]? = some x)(hy:ys[k]? = some y):decide (xs.drop k=ys.drop k)=(decide (x=y) && decide (xs.drop (k+1)=ys.drop (k+1))):=by
 obtain⟨h1,rfl⟩:=List.getElem?_eq_some_iff.1 hx;obtain⟨h2,rfl⟩:=List.getElem?_eq_some_iff.1 hy;rw[List.drop_eq_getElem_cons h1,List.drop_eq_getElem_cons h2];simp only[List.cons.injEq,Bool.decide_and]
theorem c8p(x y:TV):decide (x=y)=((x.name.toList==y.name.toList) && (x.size==y.size)):=by
 obtain⟨a,b⟩:=x;obtain⟨c,d⟩:=y;rw[b8H,Bool.eq_iff_iff];simp
theorem c1e(xs ys:List ByteArray)(va vb:Value)(w:World)(ha:Sl nmR w va xs)(hb:Sl nmR w vb ys) :
  Calls Tryz.prog 84 #[va,vb] w fun r w'=>r=.returned (.bool (decide (xs=ys)))∧Bel w w':=by
 have HSA:=Hi_ ha;have HSB:=Hi_ hb;obtain⟨A,c,rfl,hc,hm,-⟩:=ha;obtain⟨B,d,rfl,hd,hm2,-⟩:=hb;have hl1:xs.length≤9223372036854775807:=by have:=hm.1;simp only[maxLen] at this;omega
 have hl2:ys.length≤9223372036854775807:=by have:=hm2.1;simp only[maxLen] at this;omega
 clear hm hm2 hc hd;by_cases hlen:xs.length=ys.length
 rotate_left
 ·have HT:Hid (decide (xs=ys)=false):=Hi_ (decide_eq_false fun e=>hlen (by rw[e]));have d0:((xs.length:Int) != ys.length)=true:=by simp;omega
  clear hlen;go_enter Tryz.func84,Tryz.ntmps84;go_wp2;go_ret;exact⟨by rw[HT.out];rfl,Bel.rfl_ w⟩
 ·have d0:((xs.length:Int) != ys.length)=false:=by simp;omega
  have HT:Hid (decide (xs.drop 0=ys.drop 0)=decide (xs=ys)):=Hi_ rfl;have HRF:=Hi_ (Bel.rfl_ w);have HLE:=Hi_ hlen;generalize decide (xs=ys)=T at *;clear hlen;go_enter Tryz.func84,Tryz.ntmps84;go_wp2;go_loopw [13] (fun t wr=>∃j:Nat,j≤xs.length∧t=.int .i64 j∧Hid (decide (xs.drop j=ys.drop j)=T)∧Hid (Bel w wr)) (fun t _=>xs.length-(intOf t).toNat)
  case atStart=>exact⟨0,by omega,rfl,HT,HRF⟩
  case round =>
   obtain⟨j,hj,rfl,HS,HB⟩:=hrel;obtain⟨WO,hWO⟩:∃W,W=wr:=⟨_,rfl⟩;subst hWO;clear HT HRF;by_cases hlt:j<xs.length
   ·have hdd:decide ((j:Int)<xs.length)=true:=decide_eq_true (by omega);have hlt2:j<ys.length:=by have:=HLE.out;omega
    obtain⟨x,hx⟩:∃x,xs[j]? = some x:=⟨_,List.getElem?_eq_getElem hlt⟩;obtain⟨y,hy⟩:∃y,ys[j]? = some y:=⟨_,List.getElem?_eq_getElem hlt2⟩;obtain⟨b,o,rfl,hA⟩:=(HSA.out.keep HB.out).lies (by omega);obtain⟨b',o',rfl,hB⟩:=(HSB.out.keep HB.out).lies (by omega);obtain⟨hca,-⟩:=nmR.cell hA hx;obtain⟨hca',-⟩:=nmR.cell hB hy;have HCA:=Hi_ hca;have HCA':=Hi_ hca';obtain⟨CE,c1⟩:∃CE,(x.toList==y.toList)=CE:=⟨_,rfl⟩;have HXE:Hid (decide (x=y)=CE):=Hi_ (by rw[←c1,b8H]);clear hca hca';have HD:Hid ((decide (x=y) && decide (xs.drop (j+1)=ys.drop (j+1)))=T):=Hi_ (by rw[←b9W hx hy];exact HS.out);have i0:(0:Int)≤j:=by omega
    have i1:(j:Int)<xs.length:=by omega
    have i2:(j:Int)<ys.length:=by omega
    clear hx hy HS hA hB;go_upto_region 6 with fail;refine wp_region_held_drew (S:=fun W=>Bel WO W) (by kernel_rfl) ((Bel.rfl_ WO).dr) (fun hS=>?_);refine b0F (i:=0) (some 16) (.slice (some ⟨b,o,none⟩) xs.length c) rfl hS (fun _ _=>by kernel_rfl) ?_;refine b0F (i:=1) (some 17) (.int .i64 j) rfl hS (fun _ _=>by kernel_rfl) ?_;refine b0F (i:=2) (some 18) (.pointer (some ⟨b,o+j,none⟩)) rfl hS (fun W _=>by go_simp) ?_;refine b0F (i:=3) (some 19) (.string x) rfl hS (fun W hb=>b0c (hb.cell HCA.out)) ?_;refine b0F (i:=4) (some 20) (.slice (some ⟨b',o',none⟩) ys.length d) rfl hS (fun _ _=>by kernel_rfl) ?_;refine b0F (i:=5) (some 21) (.int .i64 j) rfl hS (fun _ _=>by kernel_rfl) ?_;refine b0F (i:=6) (some 22) (.pointer (some ⟨b',o'+j,none⟩)) rfl hS (fun W _=>by go_simp) ?_;refine b0F (i:=7) (some 23) (.string y) rfl hS (fun W hb=>b0c (hb.cell HCA'.out)) ?_;refine b0F (i:=8) (some 24) (.bool (!CE)) rfl hS (fun W _=>b4L rfl (by kernel_rfl) (by kernel_rfl) c1) ?_;refine wpAnyH_done (by kernel_rfl) ?_ _;try simp only[Act.put,lA,lB,lC]
    replace HB:=Hi_ (HB.out.tr hS);cases CE with
    | true =>
     have HD2:Hid (decide (xs.drop (j+1)=ys.drop (j+1))=T):=Hi_ (by rw[←HD.out,HXE.out,Bool.true_and]);go_wp2;go_roundw
     case rel=>exact⟨j+1,by omega,by go_num,HD2,HB⟩
     case measure=>simp[intOf];omega
    | false =>
     have HD2:Hid (false=T):=Hi_ (by rw[←HD.out,HXE.out,Bool.false_and]);go_wp2;go_ret;exact⟨by rw[←HD2.out];rfl,HB.out⟩
   ·obtain rfl:j=xs.length:=by omega
    have hdd:decide ((xs.length:Int)<xs.length)=false:=decide_eq_false (by omega);have HR:Hid (true=T):=Hi_ (by rw[←HS.out,List.drop_eq_nil_of_le (Nat.le_refl _),List.drop_eq_nil_of_le (by rw[HLE.out];exact Nat.le_refl _)];rfl);go_wp2;go_ret;exact⟨by rw[←HR.out];rfl,HB.out⟩
theorem c1f(xs ys:List TV)(va vb:Value)(w:World)(ha:Sl tvR w va xs)(hb:Sl tvR w vb ys) :
  Calls Tryz.prog 85 #[va,vb] w fun r w'=>r=.returned (.bool (decide (xs=ys)))∧Bel w w':=by
 have HSA:=Hi_ ha;have HSB:=Hi_ hb;obtain⟨A,c,rfl,hc,hm,-⟩:=ha;obtain⟨B,d,rfl,hd,hm2,-⟩:=hb;have hl1:xs.length≤9223372036854775807:=by have:=hm.1;simp only[maxLen] at this;omega
 have hl2:ys.length≤9223372036854775807:=by have:=hm2.1;simp only[maxLen] at this;omega
 clear hm hm2 hc hd;by_cases hlen:xs.length=ys.length
 rotate_left
 ·have HT:Hid (decide (xs=ys)=false):=Hi_ (decide_eq_false fun e=>hlen (by rw[e]));have d0:((xs.length:Int) != ys.length)=true:=by simp;omega
  clear hlen;go_enter Tryz.func85,Tryz.ntmps85;go_wp2;go_ret;exact⟨by rw[HT.out];rfl,Bel.rfl_ w⟩
 ·have d0:((xs.length:Int) != ys.length)=false:=by simp;omega
  have HT:Hid (decide (xs.drop 0=ys.drop 0)=decide (xs=ys)):=Hi_ rfl;have HRF:=Hi_ (Bel.rfl_ w);have HLE:=Hi_ hlen;generalize decide (xs=ys)=T at *;clear hlen;go_enter Tryz.func85,Tryz.ntmps85;go_wp2;go_loopw [13] (fun t wr=>∃j:Nat,j≤xs.length∧t=.int .i64 j∧Hid (decide (xs.drop j=ys.drop j)=T)∧Hid (Bel w wr)) (fun t _=>xs.length-(intOf t).toNat)
  case atStart=>exact⟨0,by omega,rfl,HT,HRF⟩
  case round =>
   obtain⟨j,hj,rfl,HS,HB⟩:=hrel;obtain⟨WO,hWO⟩:∃W,W=wr:=⟨_,rfl⟩;subst hWO;clear HT HRF;by_cases hlt:j<xs.length
   ·have hdd:decide ((j:Int)<xs.length)=true:=decide_eq_true (by omega);have hlt2:j<ys.length:=by have:=HLE.out;omega
    obtain⟨x,hx⟩:∃x,xs[j]? = some x:=⟨_,List.getElem?_eq_getElem hlt⟩;obtain⟨y,hy⟩:∃y,ys[j]? = some y:=⟨_,List.getElem?_eq_getElem hlt2⟩;obtain⟨b,o,rfl,hA⟩:=(HSA.out.keep HB.out).lies (by omega);obtain⟨b',o',rfl,hB⟩:=(HSB.out.keep HB.out).lies (by omega);obtain⟨cs,⟨rfl,-⟩,hca⟩:=hA j x hx;obtain⟨cs',⟨rfl,-⟩,hca'⟩:=hB j y hy;have HCA:Hid (b0x WO b (o+j*2) [.string x.name,.int .i64 x.size]):=Hi_ hca;have HCA':Hid (b0x WO b' (o'+j*2) [.string y.name,.int .i64 y.size]):=Hi_ hca';obtain⟨C1,c1⟩:∃CE,(x.name.toList==y.name.toList)=CE:=⟨_,rfl⟩;obtain⟨C2,c2⟩:∃CE,(x.size==y.size)=CE:=⟨_,rfl⟩;have HXE:Hid (decide (x=y)=(C1 && C2)):=Hi_ (by rw[←c1,←c2];exact c8p x y);clear hca hca';have HD:Hid ((decide (x=y) && decide (xs.drop (j+1)=ys.drop (j+1)))=T):=Hi_ (by rw[←b9W hx hy];exact HS.out);have i0:(0:Int)≤j:=by omega
    have i1:(j:Int)<xs.length:=by omega
    have i2:(j:Int)<ys.length:=by omega
    clear hx hy HS hA hB;go_upto_region 6 with fail;refine wp_region_held_drew (S:=fun W=>Bel WO W) (by kernel_rfl) ((Bel.rfl_ WO).dr) (fun hS=>?_);refine b0F (i:=0) (some 16) (.slice (some ⟨b,o,none⟩) xs.length c) rfl hS (fun _ _=>by kernel_rfl) ?_;refine b0F (i:=1) (some 17) (.int .i64 j) rfl hS (fun _ _=>by kernel_rfl) ?_;refine b0F (i:=2) (some 18) (.pointer (some ⟨b,o+j*2,none⟩)) rfl hS (fun W _=>by go_simp) ?_;refine b0F (i:=3) (some 19) _ rfl hS (fun W hb=>b0B 55 (.tmp 18) rfl b9u b (o+j*2) (by kernel_rfl) [.string x.name,.int .i64 x.size] (HCA.out.keep hb) rfl (by kernel_rfl)) ?_;refine b0F (i:=4) (some 20) (.slice (some ⟨b',o',none⟩) ys.length d) rfl hS (fun _ _=>by kernel_rfl) ?_;refine b0F (i:=5) (some 21) (.int .i64 j) rfl hS (fun _ _=>by kernel_rfl) ?_;refine b0F (i:=6) (some 22) (.pointer (some ⟨b',o'+j*2,none⟩)) rfl hS (fun W _=>by go_simp) ?_;refine b0F (i:=7) (some 23) _ rfl hS (fun W hb=>b0B 55 (.tmp 22) rfl b9u b' (o'+j*2) (by kernel_rfl) [.string y.name,.int .i64 y.size] (HCA'.out.keep hb) rfl (by kernel_rfl)) ?_;refine b0F (i:=8) (some 24) (.bool (!(C1 && C2))) rfl hS (fun W _=>c6p (c:=C1) (d:=C2) rfl (by kernel_rfl) (by kernel_rfl) c1 c2) ?_;refine wpAnyH_done (by kernel_rfl) ?_ _;try simp only[Act.put,lA,lB,lC]
    replace HB:=Hi_ (HB.out.tr hS);clear c1 c2;generalize(C1 && C2)=CE at *;cases CE with
    | true =>
     have HD2:Hid (decide (xs.drop (j+1)=ys.drop (j+1))=T):=Hi_ (by rw[←HD.out,HXE.out,Bool.true_and]);go_wp2;go_roundw
     case rel=>exact⟨j+1,by omega,by go_num,HD2,HB⟩
     case measure=>simp[intOf];omega
    | false =>
     have HD2:Hid (false=T):=Hi_ (by rw[←HD.out,HXE.out,Bool.false_and]);go_wp2;go_ret;exact⟨by rw[←HD2.out];rfl,HB.out⟩
   ·obtain rfl:j=xs.length:=by omega
    have hdd:decide ((xs.length:Int)<xs.length)=false:=decide_eq_false (by omega);have HR:Hid (true=T):=Hi_ (by rw[←HS.out,List.drop_eq_nil_of_le (Nat.le_refl _),List.drop_eq_nil_of_le (by rw[HLE.out];exact Nat.le_refl _)];rfl);go_wp2;go_ret;exact⟨by rw[←HR.out];rfl,HB.out⟩
theorem c3M(xs ys:List TF)(va vb:Value)(w:World)(ha:Sl tfR w va xs)(hb:Sl tfR w vb ys)
  (IH:∀x∈xs,∀(y:TF) (cs cs':List Value) (W:World),tfR.R W cs x→tfR.R W cs' y→Calls Tryz.prog 47 #[.agg cs.toArray,.agg cs'.toArray] W fun r w'=>r=.returned (.bool (x.same false y))∧Bel W w') :
  Calls Tryz.prog 46 #[va,vb,.func (.func 47) #[] #[]] w fun r w'=>r=.returned (.bool (b1X false xs ys))∧Bel w w':=by
 have HSA:=Hi_ ha;have HSB:=Hi_ hb;obtain⟨A,c,rfl,hc,hm,-⟩:=ha;obtain⟨B,d,rfl,hd,hm2,-⟩:=hb;have HI:=Hi_ IH;have hl1:xs.length≤9223372036854775807:=by have:=hm.1;simp only[maxLen] at this;omega
 have hl2:ys.length≤9223372036854775807:=by have:=hm2.1;simp only[maxLen] at this;omega
 clear IH hm hm2 hc hd;by_cases hlen:xs.length=ys.length
 rotate_left
 ·have HT:=Hi_ (b6C (f:=false) hlen);have d0:((xs.length:Int) != ys.length)=true:=by simp;omega
  clear hlen;go_enter Tryz.func46,Tryz.ntmps46;go_wp2;go_ret;exact⟨by rw[HT.out];rfl,Bel.rfl_ w⟩
 ·have d0:((xs.length:Int) != ys.length)=false:=by simp;omega
  have HT:Hid (b1X false (xs.drop 0) (ys.drop 0)=b1X false xs ys):=Hi_ rfl;have HRF:=Hi_ (Bel.rfl_ w);have HLE:=Hi_ hlen;generalize b1X false xs ys=T at *;clear hlen;go_enter Tryz.func46,Tryz.ntmps46;go_wp2;go_loopw [17] (fun t wr=>∃j:Nat,j≤xs.length∧t=.int .i64 j∧Hid (b1X false (xs.drop j) (ys.drop j)=T)∧Hid (Bel w wr)) (fun t _=>xs.length-(intOf t).toNat)
  case atStart=>exact⟨0,by omega,rfl,HT,HRF⟩
  case round =>
   obtain⟨j,hj,rfl,HS,HB⟩:=hrel;obtain⟨WO,hWO⟩:∃W,W=wr:=⟨_,rfl⟩;subst hWO;clear HT HRF;by_cases hlt:j<xs.length
   ·have hdd:decide ((j:Int)<xs.length)=true:=decide_eq_true (by omega);have hlt2:j<ys.length:=by have:=HLE.out;omega
    obtain⟨x,hx⟩:∃x,xs[j]? = some x:=⟨_,List.getElem?_eq_getElem hlt⟩;obtain⟨y,hy⟩:∃y,ys[j]? = some y:=⟨_,List.getElem?_eq_getElem hlt2⟩;obtain⟨b,o,rfl,hA⟩:=(HSA.out.keep HB.out).lies (by omega);obtain⟨b',o',rfl,hB⟩:=(HSB.out.keep HB.out).lies (by omega);obtain⟨cs,hcs,hca⟩:=hA j x hx;obtain⟨cs',hcs',hca'⟩:=hB j y hy;have HIX:=Hi_ (fun W (hb:Bel WO W)=>HI.out x (List.mem_of_getElem? hx) y cs cs' W (tfR.keep hb hcs) (tfR.keep hb hcs'));have HD:Hid ((x.same false y && b1X false (xs.drop (j+1)) (ys.drop (j+1)))=T):=Hi_ (by rw[←c0Q hx hy];exact HS.out);have i0:(0:Int)≤j:=by omega
    have i1:(j:Int)<xs.length:=by omega
    have i2:(j:Int)<ys.length:=by omega
    have HL:=Hi_ (tfR.len hcs);have HON:=Hi_ (b4O hcs);have HCA:Hid (b0x WO b (o+j*10) cs):=Hi_ hca;have HL':=Hi_ (tfR.len hcs');have HON':=Hi_ (b4O hcs');have HCA':Hid (b0x WO b' (o'+j*10) cs'):=Hi_ hca';clear hcs hca hcs' hca' hx hy HI HS hA hB;go_upto_region 5 with fail;refine b0E ?_;try dsimp only[List.append]
    refine b0P (some 19) (.int .i64 j) ?_;refine b0R (some 20) (.pointer (some ⟨b,o+j*10,none⟩)) (by go_simp) ?_;refine b0R (some 21) _ (b0B 51 (.tmp 20) rfl b5Q b (o+j*10) (by kernel_rfl) cs HCA.out HL.out (by kernel_rfl)) ?_;refine b2X (some 8) rfl 51 rfl rfl b5Q fun z hz=>?_;refine b0P (some 7) (.int .i64 j) ?_;refine b2Y none rfl 51 (.tmp 8) (.tmp 21) rfl rfl b5Q WO.heap.size cs (by kernel_rfl) (by kernel_rfl) (Blk.new WO 51 z) hz HL.out HON.out ?_;have HX:Hid (Bel WO ((WO.alloc (.cells z 51)).setRow WO.heap.size cs.toArray)):=Hi_ (((Bel.rfl_ WO).al _).row (Nat.le_refl _) _);have HK1:=Hi_ ((Blk.new WO 51 z).row_same cs.toArray);clear hz;generalize(WO.alloc (.cells z 51)).setRow WO.heap.size cs.toArray=W1 at *;generalize WO.heap.size=G1 at *;refine b0C ?_;try simp only[Act.put,lA,lB,lC]
    go_upto_region 6 with fail;refine b0E ?_;try dsimp only[List.append]
    refine b0P (some 22) (.slice (some ⟨b',o',none⟩) ys.length d) ?_;refine b0P (some 23) (.int .i64 j) ?_;refine b0R (some 24) (.pointer (some ⟨b',o'+j*10,none⟩)) (by go_simp) ?_;refine b0R (some 25) _ (b0B 51 (.tmp 24) rfl b5Q b' (o'+j*10) (by kernel_rfl) cs' (HCA'.out.keep HX.out) HL'.out (by kernel_rfl)) ?_;refine b2X (some 9) rfl 51 rfl rfl b5Q fun z hz=>?_;refine b2Y none rfl 51 (.tmp 9) (.tmp 25) rfl rfl b5Q W1.heap.size cs' (by kernel_rfl) (by kernel_rfl) (Blk.new W1 51 z) hz HL'.out HON'.out ?_;have HX2:Hid (Bel W1 ((W1.alloc (.cells z 51)).setRow W1.heap.size cs'.toArray)):=Hi_ (((Bel.rfl_ W1).al _).row (Nat.le_refl _) _);have HK2:=Hi_ ((Blk.new W1 51 z).row_same cs'.toArray);clear hz;generalize(W1.alloc (.cells z 51)).setRow W1.heap.size cs'.toArray=W2 at *;generalize W1.heap.size=G2 at *;replace HK1:=Hi_ (HK1.out.keep HX2.out);replace HX:=Hi_ (HX.out.tr HX2.out);clear HX2;refine b0C ?_;try simp only[Act.put,lA,lB,lC]
    go_upto_region 7 with fail;refine b0E ?_;try dsimp only[List.append]
    refine b0P (some 26) (.func (.func 47) #[] #[]) ?_;refine b0R (some 27) _ (b0B 51 (.tmp 8) rfl b5Q G1 0 (by kernel_rfl) cs (b3V HK1.out) HL.out (by kernel_rfl)) ?_;refine b0R (some 28) _ (b0B 51 (.tmp 9) rfl b5Q G2 0 (by kernel_rfl) cs' (b3V HK2.out) HL'.out (by kernel_rfl)) ?_;refine b0W (some 29) 47 #[.agg cs.toArray,.agg cs'.toArray] (HIX.out _ HX.out) ?_;rintro r W3 ⟨rfl,hb⟩;replace HX:=Hi_ (HX.out.tr hb);clear hb HK1 HK2;refine⟨_,rfl,?_⟩;generalize x.same false y=sm at *;refine b0P (some 30) (.bool (!sm)) ?_;refine b0C ?_;try simp only[Act.put,lA,lB,lC]
    cases sm with
    | true =>
     have HD2:Hid (b1X false (xs.drop (j+1)) (ys.drop (j+1))=T):=Hi_ (by rw[←HD.out,Bool.true_and]);go_wp2;go_roundw
     case rel=>exact⟨j+1,by omega,by go_num,HD2,Hi_ (HB.out.tr HX.out)⟩
     case measure=>simp[intOf];omega
    | false =>
     have HD2:Hid (false=T):=Hi_ (by rw[←HD.out,Bool.false_and]);go_wp2;go_ret;exact⟨by rw[←HD2.out];rfl,HB.out.tr HX.out⟩
   ·obtain rfl:j=xs.length:=by omega
    have hdd:decide ((xs.length:Int)<xs.length)=false:=decide_eq_false (by omega);have HR:Hid (true=T):=Hi_ (by rw[←HS.out,c2O (Nat.le_refl _) (by rw[HLE.out];exact Nat.le_refl _)]);go_wp2;go_ret;exact⟨by rw[←HR.out];rfl,HB.out⟩
theorem c2Q(x y:TF)(cs cs':List Value)(w:World)(ha:TFR w x cs)(hb:TFR w y cs') :
  Calls Tryz.prog 47 #[.agg cs.toArray,.agg cs'.toArray] w fun r w'=>r=.returned (.bool (x.same false y))∧Bel w w':=by
 obtain⟨vp,vv,vc,vr,rfl,-,hrn,hsp,hsv,hsc,hsr⟩:=ha;obtain⟨vp',vv',vc',vr',rfl,-,hrn',hsp',hsv',hsc',hsr'⟩:=hb;have HFR:Hid (∀W,Bel w W→Calls Tryz.prog 88 #[.agg #[.int .i64 x.result.kind,.int .i64 x.result.at_,.int .i64 x.result.n,.string x.result.name,vr],.agg #[.int .i64 y.result.kind,.int .i64 y.result.at_,.int .i64 y.result.n,.string y.result.name,vr']] W fun r w'=>r=.returned (.bool (x.result.same false y.result))∧Bel W w'):=Hi_ fun W hb=>b5h x.result y.result _ _ W ⟨_,rfl,hrn,hsr.keep hb⟩ ⟨_,rfl,hrn',hsr'.keep hb⟩;have HFP:=Hi_ (fun W (hb:Bel w W)=>c1e x.params y.params vp vp' W (hsp.keep hb) (hsp'.keep hb));have HFV:=Hi_ (fun W (hb:Bel w W)=>c1f x.vars y.vars vv vv' W (hsv.keep hb) (hsv'.keep hb));have HFC:=Hi_ (fun W (hb:Bel w W)=>c6K x.cmds y.cmds vc vc' W (hsc.keep hb) (hsc'.keep hb));have HE:Hid ((decide (x.name=y.name) && (decide (x.params=y.params) && (decide (x.vars=y.vars) && (b0w false x.cmds y.cmds && x.result.same false y.result))))=x.same false y):=Hi_ (by unfold TF.same;simp);obtain⟨Ap,acp,rfl,-⟩:=hsp;obtain⟨Av,acv,rfl,-⟩:=hsv;obtain⟨Ac,acc,rfl,-⟩:=hsc;obtain⟨Ar,acr,rfl,-⟩:=hsr;obtain⟨Bp,bcp,rfl,-⟩:=hsp';obtain⟨Bv,bcv,rfl,-⟩:=hsv';obtain⟨Bc,bcc,rfl,-⟩:=hsc';obtain⟨Br,bcr,rfl,-⟩:=hsr';clear hrn hrn';generalize x.same false y=T at *;generalize x.result.same false y.result=bR at *;generalize decide (x.params=y.params)=bP at *;generalize decide (x.vars=y.vars)=bV at *;generalize b0w false x.cmds y.cmds=bC at *;generalize x.result.kind=xrk at *;generalize x.result.at_=xra at *;generalize x.result.n=xrn at *;generalize x.result.name=xrs at *;generalize x.at_=xa at *;generalize x.name=xn at *;generalize y.result.kind=yrk at *;generalize y.result.at_=yra at *;generalize y.result.n=yrn at *;generalize y.result.name=yrs at *;generalize y.at_=ya at *;generalize y.name=yn at *
 have HK1:=Hi_ ((Blk.new w 51 #[.int .i64 xa,.string xn,.slice Ap x.params.length acp,.slice Av x.vars.length acv,.slice Ac x.cmds.length acc,.int .i64 xrk,.int .i64 xra,.int .i64 xrn,.string xrs,.slice Ar x.result.args.length acr]).keep ((Bel.rfl_ _).al (.cells #[.int .i64 ya,.string yn,.slice Bp y.params.length bcp,.slice Bv y.vars.length bcv,.slice Bc y.cmds.length bcc,.int .i64 yrk,.int .i64 yra,.int .i64 yrn,.string yrs,.slice Br y.result.args.length bcr] 51)));have HK2:=Hi_ (Blk.new (w.alloc (.cells #[.int .i64 xa,.string xn,.slice Ap x.params.length acp,.slice Av x.vars.length acv,.slice Ac x.cmds.length acc,.int .i64 xrk,.int .i64 xra,.int .i64 xrn,.string xrs,.slice Ar x.result.args.length acr] 51)) 51 #[.int .i64 ya,.string yn,.slice Bp y.params.length bcp,.slice Bv y.vars.length bcv,.slice Bc y.cmds.length bcc,.int .i64 yrk,.int .i64 yra,.int .i64 yrn,.string yrs,.slice Br y.result.args.length bcr]);rw[b3M] at HK2;have HX:=Hi_ (((Bel.rfl_ w).al (.cells #[.int .i64 xa,.string xn,.slice Ap x.params.length acp,.slice Av x.vars.length acv,.slice Ac x.cmds.length acc,.int .i64 xrk,.int .i64 xra,.int .i64 xrn,.string xrs,.slice Ar x.result.args.length acr] 51)).al (.cells #[.int .i64 ya,.string yn,.slice Bp y.params.length bcp,.slice Bv y.vars.length bcv,.slice Bc y.cmds.length bcc,.int .i64 yrk,.int .i64 yra,.int .i64 yrn,.string yrs,.slice Br y.result.args.length bcr] 51));go_enter Tryz.func47,Tryz.ntmps47;go_upto_region 1 with fail;generalize(w.alloc (.cells #[.int .i64 xa,.string xn,.slice Ap x.params.length acp,.slice Av x.vars.length acv,.slice Ac x.cmds.length acc,.int .i64 xrk,.int .i64 xra,.int .i64 xrn,.string xrs,.slice Ar x.result.args.length acr] 51)).alloc (.cells #[.int .i64 ya,.string yn,.slice Bp y.params.length bcp,.slice Bv y.vars.length bcv,.slice Bc y.cmds.length bcc,.int .i64 yrk,.int .i64 yra,.int .i64 yrn,.string yrs,.slice Br y.result.args.length bcr] 51)=W0 at *;generalize w.heap.size+1=G2 at *;generalize w.heap.size=G1 at *
 refine b0E ?_;try dsimp only[List.append]
 refine b0P (some 5) (.pointer (some ⟨G1,1,none⟩)) ?_;refine b0R (some 6) _ (b0c (HK1.out.cell (i:=1) (v:=.string xn) rfl)) ?_;refine b0P (some 7) (.pointer (some ⟨G2,1,none⟩)) ?_;refine b0R (some 8) _ (b0c (HK2.out.cell (i:=1) (v:=.string yn) rfl)) ?_;by_cases h_n:xn=yn
 rotate_left
 ·have d_n:(xn.toList==yn.toList)=false:=b2U h_n;rw[decide_eq_false h_n,Bool.false_and] at HE;refine b0R (some 9) (.bool false) (b3p rfl (by kernel_rfl) (by kernel_rfl) d_n) ?_;refine b0V 28 10 [.bool false,uD,uD,uD,uD,uD,.bool false,.bool false,uD,uD,uD,uD,uD,.bool false,.bool false,uD,uD,uD,uD,uD,.bool false,.bool false,uD,uD,uD,uD,uD,.bool false] ?_;refine b0P (some 4) (.bool false) ?_;refine b0C ?_;try simp only[sP,Act.put,lA,lB,lC]
  go_wp2;go_ret;exact⟨by rw[←HE.out];rfl,HX.out⟩
 have d_n:(xn.toList==yn.toList)=true:=b2x h_n;rw[decide_eq_true h_n,Bool.true_and] at HE;refine b0R (some 9) (.bool true) (b3p rfl (by kernel_rfl) (by kernel_rfl) d_n) ?_;refine b0V 2 10 [.bool true,.pointer (some ⟨G1,2,none⟩)] ?_;refine b0R (some 12) _ (b7w (HK1.out.cell (i:=2) (v:=.slice Ap x.params.length acp) rfl)) ?_;refine b0P (some 13) (.pointer (some ⟨G2,2,none⟩)) ?_;refine b0R (some 14) _ (b7w (HK2.out.cell (i:=2) (v:=.slice Bp y.params.length bcp) rfl)) ?_;refine b0W (some 15) 84 #[.slice Ap x.params.length acp,.slice Bp y.params.length bcp] (HFP.out _ HX.out) ?_;rintro r W3 ⟨rfl,hb⟩;replace HX:=Hi_ (HX.out.tr hb);replace HK1:=Hi_ (HK1.out.keep hb);replace HK2:=Hi_ (HK2.out.keep hb);clear hb;refine⟨_,rfl,?_⟩;cases bP with
 | false =>
  rw[Bool.false_and] at HE;refine b0V 22 16 [.bool false,.bool false,uD,uD,uD,uD,uD,.bool false,.bool false,uD,uD,uD,uD,uD,.bool false,.bool false,uD,uD,uD,uD,uD,.bool false] ?_;refine b0P (some 4) (.bool false) ?_;refine b0C ?_;try simp only[sP,Act.put,lA,lB,lC]
  go_wp2;go_ret;exact⟨by rw[←HE.out];rfl,HX.out⟩
 | true =>
  rw[Bool.true_and] at HE;refine b0V 3 16 [.bool true,.bool true,.pointer (some ⟨G1,3,none⟩)] ?_;refine b0R (some 19) _ (b9g (HK1.out.cell (i:=3) (v:=.slice Av x.vars.length acv) rfl)) ?_;refine b0P (some 20) (.pointer (some ⟨G2,3,none⟩)) ?_;refine b0R (some 21) _ (b9g (HK2.out.cell (i:=3) (v:=.slice Bv y.vars.length bcv) rfl)) ?_;refine b0W (some 22) 85 #[.slice Av x.vars.length acv,.slice Bv y.vars.length bcv] (HFV.out _ HX.out) ?_;rintro r W3 ⟨rfl,hb⟩;replace HX:=Hi_ (HX.out.tr hb);replace HK1:=Hi_ (HK1.out.keep hb);replace HK2:=Hi_ (HK2.out.keep hb);clear hb;refine⟨_,rfl,?_⟩;cases bV with
  | false =>
   rw[Bool.false_and] at HE;refine b0V 15 23 [.bool false,.bool false,uD,uD,uD,uD,uD,.bool false,.bool false,uD,uD,uD,uD,uD,.bool false] ?_;refine b0P (some 4) (.bool false) ?_;refine b0C ?_;try simp only[sP,Act.put,lA,lB,lC]
   go_wp2;go_ret;exact⟨by rw[←HE.out];rfl,HX.out⟩
  | true =>
   rw[Bool.true_and] at HE;refine b0V 3 23 [.bool true,.bool true,.pointer (some ⟨G1,4,none⟩)] ?_;refine b0R (some 26) _ (b1B (HK1.out.cell (i:=4) (v:=.slice Ac x.cmds.length acc) rfl)) ?_;refine b0P (some 27) (.pointer (some ⟨G2,4,none⟩)) ?_;refine b0R (some 28) _ (b1B (HK2.out.cell (i:=4) (v:=.slice Bc y.cmds.length bcc) rfl)) ?_;refine b0W (some 29) 86 #[.slice Ac x.cmds.length acc,.slice Bc y.cmds.length bcc,.func (.func 87) #[] #[]] (HFC.out _ HX.out) ?_;rintro r W3 ⟨rfl,hb⟩;replace HX:=Hi_ (HX.out.tr hb);replace HK1:=Hi_ (HK1.out.keep hb);replace HK2:=Hi_ (HK2.out.keep hb);clear hb;refine⟨_,rfl,?_⟩;cases bC with
   | false =>
    rw[Bool.false_and] at HE;refine b0V 8 30 [.bool false,.bool false,uD,uD,uD,uD,uD,.bool false] ?_;refine b0P (some 4) (.bool false) ?_;refine b0C ?_;try simp only[sP,Act.put,lA,lB,lC]
    go_wp2;go_ret;exact⟨by rw[←HE.out];rfl,HX.out⟩
   | true =>
    rw[Bool.true_and] at HE;refine b0V 3 30 [.bool true,.bool true,.pointer (some ⟨G1,5,none⟩)] ?_;refine b0R (some 33) _ (b0B 49 (.tmp 32) rfl b2R G1 5 (by kernel_rfl) [.int .i64 xrk,.int .i64 xra,.int .i64 xrn,.string xrs,.slice Ar x.result.args.length acr] (b0b HK1.out 5 rfl) rfl (by kernel_rfl)) ?_;refine b0P (some 34) (.pointer (some ⟨G2,5,none⟩)) ?_;refine b0R (some 35) _ (b0B 49 (.tmp 34) rfl b2R G2 5 (by kernel_rfl) [.int .i64 yrk,.int .i64 yra,.int .i64 yrn,.string yrs,.slice Br y.result.args.length bcr] (b0b HK2.out 5 rfl) rfl (by kernel_rfl)) ?_;refine b0W (some 36) 88 #[.agg #[.int .i64 xrk,.int .i64 xra,.int .i64 xrn,.string xrs,.slice Ar x.result.args.length acr],.agg #[.int .i64 yrk,.int .i64 yra,.int .i64 yrn,.string yrs,.slice Br y.result.args.length bcr]] (HFR.out _ HX.out) ?_;rintro r W3 ⟨rfl,hb⟩;replace HX:=Hi_ (HX.out.tr hb);replace HK1:=Hi_ (HK1.out.keep hb);replace HK2:=Hi_ (HK2.out.keep hb);clear hb;refine⟨_,rfl,?_⟩;cases bR with
    | false =>
     refine b0P (some 37) (.bool false) ?_;refine b0P (some 4) (.bool false) ?_;refine b0C ?_;try simp only[sP,Act.put,lA,lB,lC]
     go_wp2;go_ret;exact⟨by rw[←HE.out];rfl,HX.out⟩
    | true =>
     refine b0P (some 37) (.bool true) ?_;refine b0P (some 4) (.bool true) ?_;refine b0C ?_;try simp only[sP,Act.put,lA,lB,lC]
     go_wp2;go_ret;exact⟨by rw[←HE.out];rfl,HX.out⟩
theorem b5i(xs ys:List TF)(va vb:Value)(w:World)(ha:Sl tfR w va xs)(hb:Sl tfR w vb ys):Calls Tryz.prog 17 #[.agg #[va],.agg #[vb]] w fun r w'=>r=.returned (.bool (b1X false xs ys))∧Bel w w':=by
 have HF:=Hi_ (fun W (h:Bel w W)=>c3M xs ys va vb W (ha.keep h) (hb.keep h) fun x _ y cs cs' W h1 h2=>c2Q x y cs cs' W h1 h2);obtain⟨A,c,rfl,-⟩:=ha;obtain⟨B,d,rfl,-⟩:=hb;generalize b1X false xs ys=T at *;have HB:=Hi_ (((Bel.rfl_ w).al (.cells #[.slice A xs.length c] 24)).al (.cells #[.slice B ys.length d] 24));go_enter Tryz.func17,Tryz.ntmps17;go_wp2_with fail
 refine(HF.out _ HB.out).mono ?_;rintro r w1 ⟨rfl,hb⟩;go_wp2;go_ret;exact⟨rfl,HB.out.tr hb⟩
end Go.Proofs.YtmfjlcpjemccmaaGreatDoor
