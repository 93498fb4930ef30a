/- StateTells: walked. Each lemma states its own conditions. -/
import Derived.Test.YtgkpplbomciehaaStt48
namespace Go.Proofs.Ytgkpplbomciehaa
set_option maxRecDepth 20000
open Go.RowKit
theorem b8w{α:Type}{r:Rep α}{w:World}{v:Value}{xs:List α}(h:Sl r w v xs):xs.length≤9223372036854775807:=(b0R h).choose_spec.choose_spec.2
theorem b9n(ps:List PF)(l:List Ev)(T fn v:Int)(vp vl:Value)(w:World)(hs:Sl pfR w vp ps)(hl:Sl evR w vl l) :
  Calls Try.prog 9 #[.agg #[vp],vl,.int .i64 T,.int .i64 fn,.int .i64 v] w fun r w'=>r=.returned (.bool true)∧Bel w w':=by
 obtain⟨Ap,cp,rfl,-⟩:=b0R hs;obtain⟨Al,cl,rfl,-⟩:=b0R hl;have HB1:Bel w (w.alloc (.cells #[.slice Ap ps.length cp] PGT)):=(Bel.rfl_ w).al _;have HP1:=Blk.new w PGT #[.slice Ap ps.length cp];obtain⟨S,hS⟩:∃S,stateE ps l=S:=⟨_,rfl⟩;obtain⟨A,hA⟩:∃A,atE ps l T=A:=⟨_,rfl⟩;obtain⟨H,hH⟩:∃H,histE ps l fn v=H:=⟨_,rfl⟩;have hAA:A=if S≠0 then S else if T<0∨(l.length:Int)<T then 3 else 0:=by rw[←hA,←hS];rfl
 have hHH:H=if S≠0 then S else if fn<0∨(ps.length:Int)≤fn∨v<0∨((ps.getD fn.toNat noF).sizes.length:Int)≤v then 5 else 0:=by rw[←hH,←hS];rfl
 have hok:S=0→Prog ps∧b2V ps l (Rp.start ps)∧l.length≤4000:=fun h=>by
  obtain⟨h1,h2,h3⟩:=b3h (hS.trans h);exact⟨h1,b2C.fits h1 h2,h3⟩
 obtain⟨fa,hfa⟩:∃fa,(if A=0 then c0U ps l T else[])=fa:=⟨_,rfl⟩;obtain⟨fh,hfh⟩:∃fh,(if H=0 then b2H ps l fn v l.length else[])=fh:=⟨_,rfl⟩;obtain⟨fc,hfc⟩:∃fc,(if S=0 then b1O ps l l.length else[])=fc:=⟨_,rfl⟩;refine b1H (c:=_) (args:=[.agg #[.slice Ap ps.length cp],.slice Al l.length cl,.int .i64 T,.int .i64 fn,.int .i64 v]) Try.func9 rfl Try.ntmps9 (by kernel_rfl) ?_;refine b0G ?_;refine b0D ?_;refine b1n (some 5) (.pointer (some ⟨w.heap.size,0,none⟩)) (w.alloc (.cells #[.slice Ap ps.length cp] PGT)) ?_;generalize w.alloc (.cells #[.slice Ap ps.length cp] PGT)=W1 at *;generalize hQ:w.heap.size=Q at *;have HBC:=HB1;have HBK:=Bel.rfl_ W1;refine b0B (some 10) (.bool false) ?_;refine b0H ?_;refine b0E ?_;refine b0G ?_;refine b0D ?_;refine b0F (some 24) (.agg #[.slice Ap ps.length cp]) (b1b ((HP1.keep HBK).cell (i:=0) rfl)) ?_;refine b0B (some 25) (.slice Al l.length cl) ?_;refine b0B (some 26) (.int .i64 T) ?_;refine b0a (some 27) 34 #[.agg #[.slice Ap ps.length cp],.slice Al l.length cl,.int .i64 T] (b8y ps l T _ _ _ (hs.keep HBC) (hl.keep HBC)) ?_;rintro r WD ⟨hb,va,rfl,hz0,hz1⟩;rw[hA] at hz0 hz1;replace HBC:=HBC.tr hb;replace HBK:=HBK.tr hb;clear hb
 have HSa:Sl frR WD va fa:=by
  rw[←hfa];by_cases h0:A=0
  ·rw[if_pos h0];exact hz1 h0
  ·rw[if_neg h0,hz0 h0];exact Sl.nil_ _ _
 clear hz0 hz1;refine⟨_,by rw[hA],?_⟩;refine b0B (some 23) (.tuple #[va,.int .i64 A]) ?_;refine b0B (some 28) (va) ?_;refine b0B (some 29) (.int .i64 A) ?_;refine b0B (some 11) (va) ?_;refine b0B (some 12) (.int .i64 A) ?_;refine b0H ?_;refine b0E ?_;refine b0G ?_;refine b0D ?_;refine b0F (some 31) (.agg #[.slice Ap ps.length cp]) (b1b ((HP1.keep HBK).cell (i:=0) rfl)) ?_;refine b0B (some 32) (.slice Al l.length cl) ?_;refine b0B (some 33) (.int .i64 fn) ?_;refine b0B (some 34) (.int .i64 v) ?_;refine b0a (some 35) 35 #[.agg #[.slice Ap ps.length cp],.slice Al l.length cl,.int .i64 fn,.int .i64 v] (b6a ps l fn v _ _ _ (hs.keep HBC) (hl.keep HBC)) ?_;rintro r WD ⟨hb,vh,rfl,hz0,hz1⟩;rw[hH] at hz0 hz1;replace HBC:=HBC.tr hb;replace HBK:=HBK.tr hb;replace HSa:=HSa.keep hb;clear hb
 have HSh:Sl vlR WD vh fh:=by
  rw[←hfh];by_cases h0:H=0
  ·rw[if_pos h0];exact hz1 h0
  ·rw[if_neg h0,hz0 h0];exact Sl.nil_ _ _
 clear hz0 hz1;refine⟨_,by rw[hH],?_⟩;refine b0B (some 30) (.tuple #[vh,.int .i64 H]) ?_;refine b0B (some 36) (vh) ?_;refine b0B (some 37) (.int .i64 H) ?_;refine b0B (some 13) (vh) ?_;refine b0B (some 14) (.int .i64 H) ?_;refine b0H ?_;refine b0E ?_;refine b0G ?_;refine b0D ?_;refine b0F (some 39) (.agg #[.slice Ap ps.length cp]) (b1b ((HP1.keep HBK).cell (i:=0) rfl)) ?_;refine b0B (some 40) (.slice Al l.length cl) ?_;refine b0a (some 41) 36 #[.agg #[.slice Ap ps.length cp],.slice Al l.length cl] (b5p ps l _ _ _ (hs.keep HBC) (hl.keep HBC)) ?_;rintro r WD ⟨hb,vc,rfl,hz0,hz1⟩;rw[hS] at hz0 hz1;replace HBC:=HBC.tr hb;replace HBK:=HBK.tr hb;replace HSa:=HSa.keep hb;replace HSh:=HSh.keep hb;clear hb
 have HSc:Sl c2C WD vc fc:=by
  rw[←hfc];by_cases h0:S=0
  ·rw[if_pos h0];exact hz1 h0
  ·rw[if_neg h0,hz0 h0];exact Sl.nil_ _ _
 clear hz0 hz1;refine⟨_,by rw[hS],?_⟩;refine b0B (some 38) (.tuple #[vc,.int .i64 S]) ?_;refine b0B (some 42) (vc) ?_;refine b0B (some 43) (.int .i64 S) ?_;refine b0B (some 15) (vc) ?_;refine b0B (some 16) (.int .i64 S) ?_;refine b0H ?_;refine b0E ?_;refine b0G ?_;refine b0D ?_;refine b0F (some 44) (.agg #[.slice Ap ps.length cp]) (b1b ((HP1.keep HBK).cell (i:=0) rfl)) ?_;refine b0B (some 45) (.slice Al l.length cl) ?_;refine b1c (some 46) (.int .i64 S) 37 #[.agg #[.slice Ap ps.length cp],.slice Al l.length cl] (hS▸b5y ps l _ _ _ (hs.keep HBC) (hl.keep HBC)) ?_;intro WK hb;replace HBC:=HBC.tr hb;replace HBK:=HBK.tr hb;replace HSa:=HSa.keep hb;replace HSh:=HSh.keep hb;replace HSc:=HSc.keep hb;clear hb;refine b0B (some 17) (.int .i64 S) ?_;refine b0H ?_;refine b0E ?_;refine b0G ?_;refine b0D ?_;refine b0B (some 47) (.int .i64 S) ?_;refine b0B (some 48) (.int .i64 S) ?_;refine b0B (some 18) (.int .i64 S) ?_;refine b0B (some 19) (.int .i64 S) ?_;refine b0H ?_;refine b0E ?_;refine b1y (α:=Unit) (fun _ W=>WK=W) (fun _=>[(1,.slice Al l.length cl),(2,.int .i64 T),(3,.int .i64 fn),(4,.int .i64 v),(5,.pointer (some ⟨Q,0,none⟩)),(11,va),(12,.int .i64 A),(13,vh),(14,.int .i64 H),(15,vc),(16,.int .i64 S),(17,.int .i64 S),(18,.int .i64 A),(19,.int .i64 S)]) ?_ ?_
 ·skip
  refine b0G ?_;refine b0D ?_;refine b0B (some 49) (.int .i64 S) ?_;obtain⟨zc1,hzc1⟩:∃b:Bool,((S:Int)==0)=b:=⟨_,rfl⟩;refine b0F (some 50) (.bool zc1) (b2L (k:=S) (l:=0) rfl (by kernel_rfl) (by kernel_rfl) hzc1) ?_;refine b0B (some 51) (.bool zc1) ?_;refine b0L (some 52) zc1 (.int .i64 T) (by cases zc1<;>kernel_rfl) (fun hG=>by subst hG;kernel_rfl) ?_;obtain⟨zc2,hzc2⟩:∃b:Bool,decide ((T:Int)<0)=b:=⟨_,rfl⟩;refine b0L (some 53) zc1 (.bool zc2) (by cases zc1<;>kernel_rfl) (fun hG=>by subst hG;exact b0u (k:=T) (l:=0) hzc2) ?_;refine b0L (some 54) zc1 (.bool zc2) (by cases zc1<;>kernel_rfl) (fun hG=>by subst hG;kernel_rfl) ?_;obtain⟨zg3,hzg3⟩:∃b:Bool,b=(zc1 && !zc2):=⟨_,rfl⟩;refine b0L (some 55) zg3 (.int .i64 T) (by subst hzg3;cases zc1<;>cases zc2<;>kernel_rfl) (fun hG=>by subst hzg3;obtain⟨hq1,hq2⟩:zc1=true∧zc2=false:=(by revert hG;cases zc1<;>cases zc2<;>simp);subst hq2;subst hq1;kernel_rfl) ?_;refine b0L (some 56) zg3 (.slice Al l.length cl) (by subst hzg3;cases zc1<;>cases zc2<;>kernel_rfl) (fun hG=>by subst hzg3;obtain⟨hq1,hq2⟩:zc1=true∧zc2=false:=(by revert hG;cases zc1<;>cases zc2<;>simp);subst hq2;subst hq1;kernel_rfl) ?_;refine b0L (some 57) zg3 (.int .i64 l.length) (by subst hzg3;cases zc1<;>cases zc2<;>kernel_rfl) (fun hG=>by subst hzg3;obtain⟨hq1,hq2⟩:zc1=true∧zc2=false:=(by revert hG;cases zc1<;>cases zc2<;>simp);subst hq2;subst hq1;kernel_rfl) ?_;obtain⟨zc4,hzc4⟩:∃b:Bool,decide ((l.length:Int)<T)=b:=⟨_,rfl⟩;refine b0L (some 58) zg3 (.bool zc4) (by subst hzg3;cases zc1<;>cases zc2<;>kernel_rfl) (fun hG=>by subst hzg3;obtain⟨hq1,hq2⟩:zc1=true∧zc2=false:=(by revert hG;cases zc1<;>cases zc2<;>simp);subst hq2;subst hq1;exact b0Z (k:=T) (l:=l.length) hzc4) ?_;obtain⟨zr5,hzr5⟩:∃b:Bool,(zc2 || zc4)=b:=⟨_,rfl⟩;refine b0L (some 59) zc1 (.bool zr5) (by cases zc1<;>kernel_rfl) (fun hG=>by subst hzr5;cases zc2<;>(subst hG;subst hzg3;kernel_rfl)) ?_;obtain⟨zr6,hzr6⟩:∃b:Bool,(zc1 && zr5)=b:=⟨_,rfl⟩;refine b0F (some 60) (.bool zr6) (by subst hzr6;cases zc1<;>(kernel_rfl)) ?_
  refine b0H ?_;refine b0E ?_;cases zr6 with
  | true =>
   have hq6:((((S:Int)==0)) && ((decide ((T:Int)<0)) || (decide ((l.length:Int)<T))))=true:=by rw[hzc1,hzc2,hzc4,hzr5,hzr6]
   simp only[sB] at hq6;refine b0P ?_;refine b0D ?_;refine b0B (some 18) (.int .i64 3) ?_;refine b0H ?_;have hcv:A=3:=by rw[hAA,if_neg (by omega),if_pos (by omega)]
   refine b1Q () [1,2,3,4,5,11,12,13,14,15,16,17,18,19] (by rw[hcv];kernel_rfl) rfl
  | false =>
   have hq6:((((S:Int)==0)) && ((decide ((T:Int)<0)) || (decide ((l.length:Int)<T))))=false:=by rw[hzc1,hzc2,hzc4,hzr5,hzr6]
   simp only[sB] at hq6;refine b0K ?_;refine b0X ?_
   have hcv:A=S:=by
    rw[hAA];by_cases h0:S=0
    ·rw[if_neg (by omega),if_neg (by omega)];exact h0.symm
    ·rw[if_pos h0]
   refine b1Q () [1,2,3,4,5,11,12,13,14,15,16,17,18,19] (by rw[hcv];kernel_rfl) rfl
 rintro - _ rfl;refine b1y (α:=Unit) (fun _ W=>WK=W) (fun _=>[(1,.slice Al l.length cl),(2,.int .i64 T),(3,.int .i64 fn),(4,.int .i64 v),(5,.pointer (some ⟨Q,0,none⟩)),(11,va),(12,.int .i64 A),(13,vh),(14,.int .i64 H),(15,vc),(16,.int .i64 S),(17,.int .i64 S),(18,.int .i64 A),(19,.int .i64 H)]) ?_ ?_
 ·skip
  refine b0G ?_;refine b0D ?_;refine b0B (some 61) (.int .i64 S) ?_;obtain⟨zc7,hzc7⟩:∃b:Bool,((S:Int)==0)=b:=⟨_,rfl⟩;refine b0F (some 62) (.bool zc7) (b2L (k:=S) (l:=0) rfl (by kernel_rfl) (by kernel_rfl) hzc7) ?_;refine b0B (some 63) (.bool zc7) ?_;cases zc7
  ·skip
   have hs63:(((S:Int)==0))=false:=by rw[hzc7]
   simp only[sB] at hs63;refine b0J (some 64) ?_;refine b0J (some 65) ?_;refine b0J (some 66) ?_;refine b0J (some 67) ?_;refine b0J (some 68) ?_;refine b0J (some 69) ?_;refine b0J (some 70) ?_;refine b0J (some 71) ?_;refine b0J (some 72) ?_;refine b0J (some 73) ?_;refine b0J (some 74) ?_;refine b0J (some 75) ?_;refine b0J (some 76) ?_;refine b0J (some 77) ?_;refine b0J (some 78) ?_;refine b0J (some 79) ?_;refine b0J (some 80) ?_;refine b0J (some 81) ?_;refine b0J (some 82) ?_;refine b0J (some 83) ?_;refine b0J (some 84) ?_;refine b0J (some 85) ?_;refine b0J (some 86) ?_;refine b0J (some 87) ?_;refine b0B (some 88) (.bool false) ?_;refine b0H ?_;refine b0E ?_;refine b0K ?_;refine b0X ?_
   have hcv:H=S:=by
    rw[hHH];by_cases h0:S=0
    ·rw[if_neg (by omega),if_neg (by omega)];exact h0.symm
    ·rw[if_pos h0]
   refine b1Q () [1,2,3,4,5,11,12,13,14,15,16,17,18,19] (by rw[hcv];kernel_rfl) rfl
  ·skip
   have hs63:(((S:Int)==0))=true:=by rw[hzc7]
   simp only[sB] at hs63;refine b0B (some 64) (.int .i64 fn) ?_;obtain⟨zc8,hzc8⟩:∃b:Bool,decide ((fn:Int)<0)=b:=⟨_,rfl⟩;refine b0F (some 65) (.bool zc8) (b0u (k:=fn) (l:=0) hzc8) ?_;refine b0B (some 66) (.bool zc8) ?_;cases zc8
   ·skip
    have hs66:(decide ((fn:Int)<0))=false:=by rw[hzc8]
    simp only[sB] at hs66;refine b0B (some 67) (.int .i64 fn) ?_;refine b0B (some 68) (.pointer (some ⟨Q,0,none⟩)) ?_;refine b0F (some 69) (.slice Ap ps.length cp) (b3X rfl (by kernel_rfl) ((HP1.keep HBK).cell (i:=0) rfl)) ?_;refine b0B (some 70) (.int .i64 ps.length) ?_;obtain⟨zc9,hzc9⟩:∃b:Bool,decide ((ps.length:Int)≤fn)=b:=⟨_,rfl⟩;refine b0F (some 71) (.bool zc9) (b7A (k:=fn) (l:=ps.length) rfl (by kernel_rfl) (by kernel_rfl) hzc9) ?_;refine b0B (some 72) (.bool zc9) ?_;refine b0B (some 73) (.bool zc9) ?_;cases zc9
    ·skip
     have hs73:(decide ((ps.length:Int)≤fn))=false:=by rw[hzc9]
     simp only[sB] at hs73;refine b0B (some 74) (.int .i64 v) ?_;obtain⟨zc10,hzc10⟩:∃b:Bool,decide ((v:Int)<0)=b:=⟨_,rfl⟩;refine b0F (some 75) (.bool zc10) (b0u (k:=v) (l:=0) hzc10) ?_;refine b0B (some 76) (.bool zc10) ?_;refine b0B (some 77) (.bool zc10) ?_;cases zc10
     ·skip
      have hs77:(decide ((v:Int)<0))=false:=by rw[hzc10]
      simp only[sB] at hs77;have hf0:0≤fn:=by omega
      have hf1:fn<ps.length:=by omega
      obtain⟨G,hG⟩:∃G,ps[fn.toNat]? = some G:=⟨_,List.getElem?_eq_getElem (by omega)⟩;obtain⟨bp,op,cs,rfl,HCS,hcf⟩:=hs.elem hG;obtain⟨vz,vc,vr,rfl,hsz,hsc,hsr⟩:=HCS;obtain⟨Az,cz,rfl,-⟩:=b0R hsz;have hk1:w.cell? ⟨bp,op+fn.toNat*6+1,none⟩=some (.slice Az G.sizes.length cz):=hcf 1 _ rfl;rw[b1A hG] at hHH;refine b0B (some 78) (.int .i64 v) ?_;refine b0B (some 79) (.pointer (some ⟨Q,0,none⟩)) ?_;refine b0F (some 80) (.slice (some ⟨bp,op,none⟩) ps.length cp) (b3X rfl (by kernel_rfl) ((HP1.keep HBK).cell (i:=0) rfl)) ?_;refine b0B (some 81) (.int .i64 fn) ?_;refine b0F (some 82) (.pointer (some ⟨bp,op+fn.toNat*6,none⟩)) (b8S b6L bp op ps.length cp fn rfl (by kernel_rfl) (by kernel_rfl) hf0 hf1) ?_;refine b0B (some 83) (.pointer (some ⟨bp,op+fn.toNat*6+1,none⟩)) ?_;refine b0F (some 84) (.slice Az G.sizes.length cz) (b1F (Bel.cell HBC hk1)) ?_;refine b0B (some 85) (.int .i64 G.sizes.length) ?_;obtain⟨zc11,hzc11⟩:∃b:Bool,decide ((G.sizes.length:Int)≤v)=b:=⟨_,rfl⟩;refine b0F (some 86) (.bool zc11) (b7A (k:=v) (l:=G.sizes.length) rfl (by kernel_rfl) (by kernel_rfl) hzc11) ?_;refine b0B (some 87) (.bool zc11) ?_;refine b0B (some 88) (.bool zc11) ?_;refine b0H ?_;refine b0E ?_;cases zc11 with
      | true =>
       have hq8:(decide ((G.sizes.length:Int)≤v))=true:=by rw[hzc11]
       simp only[sB] at hq8;refine b0P ?_;refine b0D ?_;refine b0B (some 19) (.int .i64 5) ?_;refine b0H ?_;have hcv:H=5:=by rw[hHH,if_neg (by omega),if_pos (by omega)]
       refine b1Q () [1,2,3,4,5,11,12,13,14,15,16,17,18,19] (by rw[hcv];kernel_rfl) rfl
      | false =>
       have hq8:(decide ((G.sizes.length:Int)≤v))=false:=by rw[hzc11]
       simp only[sB] at hq8;refine b0K ?_;refine b0X ?_
       have hcv:H=S:=by
        rw[hHH];by_cases h0:S=0
        ·rw[if_neg (by omega),if_neg (by omega)];exact h0.symm
        ·rw[if_pos h0]
       refine b1Q () [1,2,3,4,5,11,12,13,14,15,16,17,18,19] (by rw[hcv];kernel_rfl) rfl
     ·skip
      have hs77:(decide ((v:Int)<0))=true:=by rw[hzc10]
      simp only[sB] at hs77;refine b0J (some 78) ?_;refine b0J (some 79) ?_;refine b0J (some 80) ?_;refine b0J (some 81) ?_;refine b0J (some 82) ?_;refine b0J (some 83) ?_;refine b0J (some 84) ?_;refine b0J (some 85) ?_;refine b0J (some 86) ?_;refine b0B (some 87) (.bool true) ?_;refine b0B (some 88) (.bool true) ?_;refine b0H ?_;refine b0E ?_;refine b0P ?_;refine b0D ?_;refine b0B (some 19) (.int .i64 5) ?_;refine b0H ?_;have hcv:H=5:=by rw[hHH,if_neg (by omega),if_pos (by omega)]
      refine b1Q () [1,2,3,4,5,11,12,13,14,15,16,17,18,19] (by rw[hcv];kernel_rfl) rfl
    ·skip
     have hs73:(decide ((ps.length:Int)≤fn))=true:=by rw[hzc9]
     simp only[sB] at hs73;refine b0J (some 74) ?_;refine b0J (some 75) ?_;refine b0B (some 76) (.bool true) ?_;refine b0B (some 77) (.bool true) ?_;refine b0J (some 78) ?_;refine b0J (some 79) ?_;refine b0J (some 80) ?_;refine b0J (some 81) ?_;refine b0J (some 82) ?_;refine b0J (some 83) ?_;refine b0J (some 84) ?_;refine b0J (some 85) ?_;refine b0J (some 86) ?_;refine b0B (some 87) (.bool true) ?_;refine b0B (some 88) (.bool true) ?_;refine b0H ?_;refine b0E ?_;refine b0P ?_;refine b0D ?_;refine b0B (some 19) (.int .i64 5) ?_;refine b0H ?_;have hcv:H=5:=by rw[hHH,if_neg (by omega),if_pos (by omega)]
     refine b1Q () [1,2,3,4,5,11,12,13,14,15,16,17,18,19] (by rw[hcv];kernel_rfl) rfl
   ·skip
    have hs66:(decide ((fn:Int)<0))=true:=by rw[hzc8]
    simp only[sB] at hs66;refine b0J (some 67) ?_;refine b0J (some 68) ?_;refine b0J (some 69) ?_;refine b0J (some 70) ?_;refine b0J (some 71) ?_;refine b0B (some 72) (.bool true) ?_;refine b0B (some 73) (.bool true) ?_;refine b0J (some 74) ?_;refine b0J (some 75) ?_;refine b0B (some 76) (.bool true) ?_;refine b0B (some 77) (.bool true) ?_;refine b0J (some 78) ?_;refine b0J (some 79) ?_;refine b0J (some 80) ?_;refine b0J (some 81) ?_;refine b0J (some 82) ?_;refine b0J (some 83) ?_;refine b0J (some 84) ?_;refine b0J (some 85) ?_;refine b0J (some 86) ?_;refine b0B (some 87) (.bool true) ?_;refine b0B (some 88) (.bool true) ?_;refine b0H ?_;refine b0E ?_;refine b0P ?_;refine b0D ?_;refine b0B (some 19) (.int .i64 5) ?_;refine b0H ?_;have hcv:H=5:=by rw[hHH,if_neg (by omega),if_pos (by omega)]
    refine b1Q () [1,2,3,4,5,11,12,13,14,15,16,17,18,19] (by rw[hcv];kernel_rfl) rfl
 rintro - _ rfl;refine b0G ?_;refine b0D ?_;refine b0B (some 20) (.slice none 0 0) ?_;refine b0H ?_;refine b0E ?_;refine b0G ?_;refine b0D ?_;refine b0B (some 21) (.slice none 0 0) ?_;refine b0H ?_;refine b0E ?_;refine b0G ?_;refine b0D ?_;refine b0B (some 22) (.slice none 0 0) ?_;refine b0H ?_;refine b0E ?_;refine b1y (α:=Value) (fun q1 W=>Sl frR W q1 fa∧Bel WK W) (fun q1=>[(1,.slice Al l.length cl),(2,.int .i64 T),(3,.int .i64 fn),(4,.int .i64 v),(5,.pointer (some ⟨Q,0,none⟩)),(11,va),(12,.int .i64 A),(13,vh),(14,.int .i64 H),(15,vc),(16,.int .i64 S),(17,.int .i64 S),(18,.int .i64 A),(19,.int .i64 H),(20,q1),(21,.slice none 0 0),(22,.slice none 0 0)]) ?_ ?_
 ·skip
  refine b0G ?_;refine b0D ?_;refine b0B (some 89) (.int .i64 A) ?_;obtain⟨zc12,hzc12⟩:∃b:Bool,((A:Int)==0)=b:=⟨_,rfl⟩;refine b0F (some 90) (.bool zc12) (b2L (k:=A) (l:=0) rfl (by kernel_rfl) (by kernel_rfl) hzc12) ?_;refine b0H ?_;refine b0E ?_;cases zc12 with
  | true =>
   have hq13:(((A:Int)==0))=true:=by rw[hzc12]
   simp only[sB] at hq13;obtain⟨hS0,ht0,ht1⟩:=c2Q (hA.trans hq13);obtain⟨hpr,hfit,hl4⟩:=hok (hS.symm.trans hS0);have hcon:=b7Y ps l T.toNat (by omega) hl4 hpr hfit _ _ WK (hs.keep HBC) (hl.keep HBC);rw[show((T.toNat:Nat):Int)=T by omega] at hcon;refine b0P ?_;refine b0D ?_;refine b0F (some 91) (.agg #[.slice Ap ps.length cp]) (b1b ((HP1.keep HBK).cell (i:=0) rfl)) ?_;refine b0B (some 92) (.slice Al l.length cl) ?_;refine b0B (some 93) (.int .i64 T) ?_;refine b0a (some 94) 38 #[.agg #[.slice Ap ps.length cp],.slice Al l.length cl,.int .i64 T] (hcon) ?_;rintro r WX ⟨q0,rfl,HQ0,hb⟩;refine⟨_,rfl,?_⟩;refine b0B (some 20) (q0) ?_;refine b0H ?_;refine b0V q0 [1,2,3,4,5,11,12,13,14,15,16,17,18,19,20,21,22] ⟨?_,hb⟩;rw[←hfa,if_pos hq13,b8J (hA.trans hq13)];exact HQ0
  | false =>
   have hq13:(((A:Int)==0))=false:=by rw[hzc12]
   simp only[sB] at hq13;refine b0K ?_;refine b0X ?_;refine b0V (.slice none 0 0) [1,2,3,4,5,11,12,13,14,15,16,17,18,19,20,21,22] ⟨?_,Bel.rfl_ _⟩;rw[←hfa,if_neg (by omega)];exact Sl.nil_ _ _
 rintro q1 WQ1 ⟨HQ1,hb⟩;replace HBC:=HBC.tr hb;replace HBK:=HBK.tr hb;replace HSa:=HSa.keep hb;replace HSh:=HSh.keep hb;replace HSc:=HSc.keep hb;clear hb;refine b1y (α:=Value) (fun q2 W=>Sl vlR W q2 fh∧Bel WQ1 W) (fun q2=>[(1,.slice Al l.length cl),(2,.int .i64 T),(3,.int .i64 fn),(4,.int .i64 v),(5,.pointer (some ⟨Q,0,none⟩)),(11,va),(12,.int .i64 A),(13,vh),(14,.int .i64 H),(15,vc),(16,.int .i64 S),(17,.int .i64 S),(18,.int .i64 A),(19,.int .i64 H),(20,q1),(21,q2),(22,.slice none 0 0)]) ?_ ?_
 ·skip
  refine b0G ?_;refine b0D ?_;refine b0B (some 95) (.int .i64 H) ?_;obtain⟨zc13,hzc13⟩:∃b:Bool,((H:Int)==0)=b:=⟨_,rfl⟩;refine b0F (some 96) (.bool zc13) (b2L (k:=H) (l:=0) rfl (by kernel_rfl) (by kernel_rfl) hzc13) ?_;refine b0H ?_;refine b0E ?_;cases zc13 with
  | true =>
   have hq15:(((H:Int)==0))=true:=by rw[hzc13]
   simp only[sB] at hq15;obtain⟨hS0,-⟩:=c1d (hH.trans hq15);obtain⟨hpr,hfit,hl4⟩:=hok (hS.symm.trans hS0);have hcon:=b6n ps l fn v hl4 hpr hfit _ _ WQ1 (hs.keep HBC) (hl.keep HBC);refine b0P ?_;refine b0D ?_;refine b0F (some 97) (.agg #[.slice Ap ps.length cp]) (b1b ((HP1.keep HBK).cell (i:=0) rfl)) ?_;refine b0B (some 98) (.slice Al l.length cl) ?_;refine b0B (some 99) (.int .i64 fn) ?_;refine b0B (some 100) (.int .i64 v) ?_;refine b0a (some 101) 39 #[.agg #[.slice Ap ps.length cp],.slice Al l.length cl,.int .i64 fn,.int .i64 v] (hcon) ?_;rintro r WX ⟨q0,rfl,HQ0,hb⟩;refine⟨_,rfl,?_⟩;refine b0B (some 21) (q0) ?_;refine b0H ?_;refine b0V q0 [1,2,3,4,5,11,12,13,14,15,16,17,18,19,20,21,22] ⟨?_,hb⟩;rw[←hfh,if_pos hq15,b7a hfit];exact HQ0
  | false =>
   have hq15:(((H:Int)==0))=false:=by rw[hzc13]
   simp only[sB] at hq15;refine b0K ?_;refine b0X ?_;refine b0V (.slice none 0 0) [1,2,3,4,5,11,12,13,14,15,16,17,18,19,20,21,22] ⟨?_,Bel.rfl_ _⟩;rw[←hfh,if_neg (by omega)];exact Sl.nil_ _ _
 rintro q2 WQ2 ⟨HQ2,hb⟩;replace HBC:=HBC.tr hb;replace HBK:=HBK.tr hb;replace HSa:=HSa.keep hb;replace HSh:=HSh.keep hb;replace HSc:=HSc.keep hb;replace HQ1:=HQ1.keep hb;clear hb;refine b1y (α:=Value) (fun q3 W=>Sl c2C W q3 fc∧Bel WQ2 W) (fun q3=>[(1,.slice Al l.length cl),(2,.int .i64 T),(3,.int .i64 fn),(4,.int .i64 v),(5,.pointer (some ⟨Q,0,none⟩)),(11,va),(12,.int .i64 A),(13,vh),(14,.int .i64 H),(15,vc),(16,.int .i64 S),(17,.int .i64 S),(18,.int .i64 A),(19,.int .i64 H),(20,q1),(21,q2),(22,q3)]) ?_ ?_
 ·skip
  refine b0G ?_;refine b0D ?_;refine b0B (some 102) (.int .i64 S) ?_;obtain⟨zc14,hzc14⟩:∃b:Bool,((S:Int)==0)=b:=⟨_,rfl⟩;refine b0F (some 103) (.bool zc14) (b2L (k:=S) (l:=0) rfl (by kernel_rfl) (by kernel_rfl) hzc14) ?_;refine b0H ?_;refine b0E ?_;cases zc14 with
  | true =>
   have hq17:(((S:Int)==0))=true:=by rw[hzc14]
   simp only[sB] at hq17;obtain⟨hpr,hfit,hl4⟩:=hok hq17;have hcon:=b8A ps l hl4 hpr _ _ WQ2 (hs.keep HBC) (hl.keep HBC);refine b0P ?_;refine b0D ?_;refine b0F (some 104) (.agg #[.slice Ap ps.length cp]) (b1b ((HP1.keep HBK).cell (i:=0) rfl)) ?_;refine b0B (some 105) (.slice Al l.length cl) ?_;refine b0a (some 106) 40 #[.agg #[.slice Ap ps.length cp],.slice Al l.length cl] (hcon) ?_;rintro r WX ⟨q0,rfl,HQ0,hb⟩;refine⟨_,rfl,?_⟩;refine b0B (some 22) (q0) ?_;refine b0H ?_;refine b0V q0 [1,2,3,4,5,11,12,13,14,15,16,17,18,19,20,21,22] ⟨?_,hb⟩;rw[←hfc,if_pos hq17,b9J hfit];exact HQ0
  | false =>
   have hq17:(((S:Int)==0))=false:=by rw[hzc14]
   simp only[sB] at hq17;refine b0K ?_;refine b0X ?_;refine b0V (.slice none 0 0) [1,2,3,4,5,11,12,13,14,15,16,17,18,19,20,21,22] ⟨?_,Bel.rfl_ _⟩;rw[←hfc,if_neg (by omega)];exact Sl.nil_ _ _
 rintro q3 WQ3 ⟨HQ3,hb⟩;replace HBC:=HBC.tr hb;replace HBK:=HBK.tr hb;replace HSa:=HSa.keep hb;replace HSh:=HSh.keep hb;replace HSc:=HSc.keep hb;replace HQ1:=HQ1.keep hb;replace HQ2:=HQ2.keep hb;clear hb;refine b0G ?_;have hkA:((A:Int)==A)=true:=by simp
 have hkH:((H:Int)==H)=true:=by simp
 have hkS:((S:Int)==S)=true:=by simp
 refine b0D ?_;refine b1c (some 107) (.bool true) 41 #[] (b6D _) ?_;intro WG hb;replace HBC:=HBC.tr hb;replace HBK:=HBK.tr hb;replace HSa:=HSa.keep hb;replace HSh:=HSh.keep hb;replace HSc:=HSc.keep hb;replace HQ1:=HQ1.keep hb;replace HQ2:=HQ2.keep hb;replace HQ3:=HQ3.keep hb;clear hb;refine b0B (some 108) (.bool true) ?_;refine b0B (some 109) (.int .i64 A) ?_;refine b0B (some 110) (.int .i64 A) ?_;refine b0F (some 111) (.bool true) (b2L (k:=A) (l:=A) rfl (by kernel_rfl) (by kernel_rfl) hkA) ?_;refine b0B (some 112) (.bool true) ?_;refine b0B (some 113) (.bool true) ?_;refine b0B (some 114) (va) ?_;refine b0B (some 115) (q1) ?_;refine b1c (some 116) (.bool true) 42 #[va,q1] ((decide_eq_true (rfl:fa=fa))▸b3y _ _ fa fa _ HSa HQ1) ?_;intro WG hb;replace HBC:=HBC.tr hb;replace HBK:=HBK.tr hb;replace HSa:=HSa.keep hb;replace HSh:=HSh.keep hb;replace HSc:=HSc.keep hb;replace HQ1:=HQ1.keep hb;replace HQ2:=HQ2.keep hb;replace HQ3:=HQ3.keep hb;clear hb;refine b0B (some 117) (.bool true) ?_;refine b0B (some 118) (.bool true) ?_;refine b0B (some 119) (.int .i64 H) ?_;refine b0B (some 120) (.int .i64 H) ?_;refine b0F (some 121) (.bool true) (b2L (k:=H) (l:=H) rfl (by kernel_rfl) (by kernel_rfl) hkH) ?_;refine b0B (some 122) (.bool true) ?_;refine b0B (some 123) (.bool true) ?_;refine b0B (some 124) (vh) ?_;refine b0B (some 125) (q2) ?_;refine b1c (some 126) (.bool true) 43 #[vh,q2] ((decide_eq_true (rfl:fh=fh))▸b6X _ _ fh fh _ HSh HQ2 (b8w HSh) (b8w HSh)) ?_;intro WG hb;replace HBC:=HBC.tr hb;replace HBK:=HBK.tr hb;replace HSa:=HSa.keep hb;replace HSh:=HSh.keep hb;replace HSc:=HSc.keep hb;replace HQ1:=HQ1.keep hb;replace HQ2:=HQ2.keep hb;replace HQ3:=HQ3.keep hb;clear hb;refine b0B (some 127) (.bool true) ?_;refine b0B (some 128) (.bool true) ?_;refine b0B (some 129) (.int .i64 S) ?_;refine b0B (some 130) (.int .i64 S) ?_;refine b0F (some 131) (.bool true) (b2L (k:=S) (l:=S) rfl (by kernel_rfl) (by kernel_rfl) hkS) ?_;refine b0B (some 132) (.bool true) ?_
 refine b0B (some 133) (.bool true) ?_;refine b0B (some 134) (vc) ?_;refine b0B (some 135) (q3) ?_;refine b1c (some 136) (.bool true) 44 #[vc,q3] ((decide_eq_true (rfl:fc=fc))▸b6W _ _ fc fc _ HSc HQ3 (b8w HSc) (b8w HSc)) ?_;intro WG hb;replace HBC:=HBC.tr hb;replace HBK:=HBK.tr hb;replace HSa:=HSa.keep hb;replace HSh:=HSh.keep hb;replace HSc:=HSc.keep hb;replace HQ1:=HQ1.keep hb;replace HQ2:=HQ2.keep hb;replace HQ3:=HQ3.keep hb;clear hb;refine b0B (some 137) (.bool true) ?_;refine b0B (some 10) (.bool true) ?_;refine b0H ?_;refine b0E ?_;refine b0x ?_;refine b0d 10 (.bool true) ?_;exact⟨rfl,HBC⟩
end Go.Proofs.Ytgkpplbomciehaa
