/- A program is checked by the document: walked. Each lemma states its own conditions. -/
import Derived.Test.YtgkpplbomciehaaStt29
namespace Go.Proofs.Ytgkpplbomciehaa
set_option maxRecDepth 20000
set_option maxHeartbeats 16000000
open Go.RowKit
def msum(ps:List PF)(i:Nat):Int:=((ps.take i).map fun f=>b2N f.cmds 1).sum
theorem c2I(l:List Int)(x:Int):(l++[x]).sum=l.sum+x:=by
 induction l with
 | nil=>simp
 | cons y l ih=>rw[List.cons_append,List.sum_cons,List.sum_cons,ih];omega
theorem b7h{ps:List PF}{i:Nat}{g:PF}(h:ps[i]? = some g):msum ps (i+1)=msum ps i+b2N g.cmds 1:=by
 unfold msum;rw[b0z h,List.map_append,List.map_singleton,c2I]
theorem c0a(ps:List PF):∀i,0≤msum ps i∧msum ps i≤41*i
 | 0=>by unfold msum;simp
 | i+1=>by
  have ih:=c0a ps i;cases h:ps[i]? with
  | none =>
   have h1:=List.getElem?_eq_none_iff.1 h;have:msum ps (i+1)=msum ps i:=by unfold msum;rw[List.take_of_length_le (by omega),List.take_of_length_le (by omega)]
   omega
  | some g =>
   have:=b7h h;have:=b3M g.cmds 1;omega
theorem b8q:∀ps:List PF,(ps.all (fun f=>b1P f.cmds 1)=true→(ps.map fun f=>b2N f.cmds 1).sum=((ps.map fun f=>b0r f.cmds).sum:Nat)∨(40<(ps.map fun f=>b2N f.cmds 1).sum∧40<(ps.map fun f=>b0r f.cmds).sum))∧(ps.all (fun f=>b1P f.cmds 1)=false→40<(ps.map fun f=>b2N f.cmds 1).sum)∧0≤(ps.map fun f=>b2N f.cmds 1).sum
 | []=>⟨fun _=>Or.inl rfl,fun h=>Bool.noConfusion h,Int.le_refl _⟩
 | g::ps=>by
  obtain⟨h1,h2,h3⟩:=b8q ps;have h4:=b3M g.cmds 1;obtain⟨h5,h6⟩:=b9a g.cmds;simp only[List.all_cons,List.map_cons,List.sum_cons];refine⟨fun h=>?_,fun h=>?_,by omega⟩
  ·rw[Bool.and_eq_true] at h;have a:=h5 h.1;have b:=h1 h.2;omega
  ·rw[Bool.and_eq_false_iff] at h;rcases h with h | h
   ·have:=h6 h;omega
   ·have:=h2 h;omega
theorem c1l{ps:List PF}(h6:ps.length≤6):40<msum ps ps.length↔(6<ps.length∨ps.all (fun f=>b1P f.cmds 1)=false∨40<(ps.map fun f=>b0r f.cmds).sum):=by
 obtain⟨h1,h2,h3⟩:=b8q ps;unfold msum;rw[List.take_length];cases hb:ps.all (fun f=>b1P f.cmds 1) with
 | true =>
  have:=h1 hb;simp only[Bool.true_eq_false,false_or];omega
 | false =>
  have:=h2 hb;simp only[true_or,or_true,iff_true];omega
theorem c0H{pms:List Int}{ps:List PF}{i:Nat}{g:PF}(h:ps[i]? = some g):b2P pms i (ps.drop i)=orE (g.err pms ((if i+1=ps.length then i else i+1:Nat):Int) (decide (i+1=ps.length))) (b2P pms (i+1) (ps.drop (i+1))):=by
 obtain⟨hl,rfl⟩:=List.getElem?_eq_some_iff.1 h;rw[List.drop_eq_getElem_cons hl];by_cases he:i+1=ps.length
 ·rw[if_pos he,decide_eq_true he,List.drop_eq_nil_of_le (by omega),b2P,b2P,b2v]
 ·rw[if_neg he,decide_eq_false he];cases hd:ps.drop (i+1) with
  | nil=>have:=List.drop_eq_nil_iff.1 hd;omega
  | cons f l=>rw[b2P]
theorem b8f{l:List Int}{i:Nat}{x:Int}{p:Int→Bool}(hx:l[i]? = some x):(l.take (i+1)).all p=((l.take i).all p && p x):=by
 rw[b0z hx,List.all_append];simp
theorem b9y{l:List Int}{x:Int}{i:Nat}{p:Int→Bool}(hx:l[i]? = some x)(h:p x=false):l.all p=false:=by
 rw[List.all_eq_false];exact⟨x,List.mem_of_getElem? hx,by rw[h];decide⟩
theorem b5C(ps:List PF)(vp:Value)(w:World)(hp:Sl pfR w vp ps):Calls Try.prog 21 #[.agg #[vp]] w fun r w'=>r=.returned (.int .i64 (b5X ps))∧Bel w w':=by
 obtain⟨Ap,cp,rfl,hlp⟩:=b0R hp;have HB1:Bel w (w.alloc (.cells #[.slice Ap ps.length cp] PGT)):=(Bel.rfl_ w).al _;have HP1:=Blk.new w PGT #[.slice Ap ps.length cp];obtain⟨T,hT⟩:∃T,b5X ps=T:=⟨_,rfl⟩;rw[hT];unfold b5X at hT;refine b1H (c:=_) (args:=[.agg #[.slice Ap ps.length cp]]) Try.func21 rfl Try.ntmps21 (by kernel_rfl) ?_;refine b0G ?_;refine b0D ?_;refine b1n (some 1) (.pointer (some ⟨w.heap.size,0,none⟩)) (w.alloc (.cells #[.slice Ap ps.length cp] PGT)) ?_;refine b0B (some 2) (.int .i64 0) ?_;refine b0H ?_;generalize w.alloc (.cells #[.slice Ap ps.length cp] PGT)=W1 at *;generalize hQ:w.heap.size=Q at *;clear hQ;have HBC:=Bel.rfl_ W1;refine b0E ?_;refine b0G ?_;refine b0D ?_;refine b0B (some 12) (.pointer (some ⟨Q,0,none⟩)) ?_;refine b0F (some 13) (.slice Ap ps.length cp) (b3X rfl (by kernel_rfl) ((HP1.keep HBC).cell (i:=0) (v:=.slice Ap ps.length cp) rfl)) ?_;refine b0B (some 14) (.int .i64 ps.length) ?_;refine b0B (some 3) (.int .i64 ps.length) ?_;refine b0H ?_;refine b0E ?_;refine b0G ?_;refine b0G ?_;refine b0D ?_;refine b0B (some 15) (.int .i64 ps.length) ?_;obtain⟨zc1,hzc1⟩:∃b:Bool,((ps.length:Int)==0)=b:=⟨_,rfl⟩;refine b0F (some 16) (.bool zc1) (b0b (k:=ps.length) (l:=0) hzc1) ?_;refine b0H ?_;refine b0E ?_;cases zc1 with
 | true =>
  have hq:(((ps.length:Int)==0))=true:=by rw[hzc1]
  simp only[sB] at hq;have HT0:T=1:=by rw[←hT,if_pos (by omega)]
  refine b0P ?_;refine b0G ?_;refine b0D ?_;refine b0B (some 2) (.int .i64 1) ?_;refine b0H ?_;refine b0E ?_;refine b0x ?_;refine b0N ?_;refine b0d 2 (.int .i64 1) ?_;exact⟨by rw[HT0],HB1.tr HBC⟩
 | false =>
  have hq:(((ps.length:Int)==0))=false:=by rw[hzc1]
  simp only[sB] at hq;rw[if_neg (by omega)] at hT;refine b0K ?_;refine b0X ?_;refine b0E ?_;refine b0G ?_;refine b0G ?_;refine b0D ?_;refine b0B (some 17) (.int .i64 ps.length) ?_;obtain⟨zc2,hzc2⟩:∃b:Bool,decide ((6:Int)<ps.length)=b:=⟨_,rfl⟩;refine b0F (some 18) (.bool zc2) (b0Z (k:=ps.length) (l:=6) hzc2) ?_;refine b0H ?_;refine b0E ?_;cases zc2 with
  | true =>
   have hq:(decide ((6:Int)<ps.length))=true:=by rw[hzc2]
   simp only[sB] at hq;have HT0:T=2:=by rw[←hT,if_pos (Or.inl (by omega))]
   refine b0P ?_;refine b0G ?_;refine b0D ?_;refine b0B (some 2) (.int .i64 2) ?_;refine b0H ?_;refine b0E ?_;refine b0x ?_;refine b0N ?_;refine b0d 2 (.int .i64 2) ?_;exact⟨by rw[HT0],HB1.tr HBC⟩
  | false =>
   have hq:(decide ((6:Int)<ps.length))=false:=by rw[hzc2]
   simp only[sB] at hq;have hp6:ps.length≤6:=by omega
   refine b0K ?_;refine b0X ?_;refine b0E ?_;refine b0G ?_;refine b0D ?_;refine b0B (some 4) (.int .i64 0) ?_;refine b0H ?_;refine b0E ?_;refine b0G ?_;refine b0G ?_;refine b0D ?_;refine b0B (some 5) (.int .i64 0) ?_;refine b0H ?_;refine b0E ?_;refine b0e ?_;refine b1e (α:=Nat) (fun i W=>i≤ps.length∧Bel W1 W) (fun i=>[(1,.pointer (some ⟨Q,0,none⟩)),(3,.int .i64 ps.length),(4,.int .i64 (msum ps i)),(5,.int .i64 (i:Int))]) (fun i=>ps.length-i) 0 [1,3,4,5] (by kernel_rfl) ⟨Nat.zero_le _,HBC⟩ ?_;clear HBC;rintro i WC ⟨hi,HBC⟩;have hms:=c0a ps i;refine b0G ?_;refine b0G ?_;refine b0D ?_;refine b0B (some 19) (.int .i64 (i:Int)) ?_;refine b0B (some 20) (.int .i64 ps.length) ?_;obtain⟨zc3,hzc3⟩:∃b:Bool,decide (((i:Int):Int)<ps.length)=b:=⟨_,rfl⟩;refine b0F (some 21) (.bool zc3) (b0u (k:=(i:Int)) (l:=ps.length) hzc3) ?_;refine b0H ?_;refine b0E ?_;cases zc3 with
   | true =>
    have hq:(decide (((i:Int):Int)<ps.length))=true:=by rw[hzc3]
    simp only[sB] at hq;have hil:i<ps.length:=by omega
    obtain⟨g,hgg⟩:∃g,ps[i]? = some g:=⟨_,List.getElem?_eq_getElem hil⟩;obtain⟨bp,op,cs,rfl,HCS,hca0⟩:=hp.elem hgg;obtain⟨vz,vc,vr,rfl,hsz,hsc,hsr⟩:=HCS;obtain⟨Ac,cc,rfl,-⟩:=b0R hsc;have hcac:WC.cell? ⟨bp,op+i*6+2,none⟩=some (.slice Ac g.cmds.length cc):=(HB1.tr HBC).cell (hca0 2 _ rfl);have hmr:=b3M g.cmds 1;refine b0P ?_;refine b0X ?_;refine b0E ?_;refine b0G ?_;refine b0e ?_;refine b0D ?_;refine b0B (some 24) (.int .i64 (msum ps i)) ?_;refine b0B (some 25) (.pointer (some ⟨Q,0,none⟩)) ?_;refine b0F (some 26) (.slice (some ⟨bp,op,none⟩) ps.length cp) (b3X rfl (by kernel_rfl) ((HP1.keep HBC).cell (i:=0) (v:=.slice (some ⟨bp,op,none⟩) ps.length cp) rfl)) ?_;refine b0B (some 27) (.int .i64 (i:Int)) ?_;refine b0F (some 28) (.pointer (some ⟨bp,op+i*6,none⟩)) (b0t b6L bp op ps.length cp i hil) ?_;refine b0B (some 29) (.pointer (some ⟨bp,op+i*6+2,none⟩)) ?_;refine b0F (some 30) (.slice Ac g.cmds.length cc) (b0p hcac) ?_;refine b1c (some 31) (.int .i64 (b2N g.cmds 1)) 54 #[.slice Ac g.cmds.length cc,.int .i64 1] (b7f g.cmds 1 _ _ (by decide) (by decide) (hsc.keep (HB1.tr HBC))) ?_;intro WC hb;replace HBC:=HBC.tr hb;clear hb;refine b0F (some 32) (.int .i64 (((msum ps i):Int)+(b2N g.cmds 1))) (b0U (k:=(msum ps i)) (l:=(b2N g.cmds 1)) (by omega) (by omega)) ?_;refine b0B (some 4) (.int .i64 (((msum ps i):Int)+(b2N g.cmds 1))) ?_;refine b0H ?_;refine b0Q ?_;refine b0E ?_;refine b0D ?_;refine b0B (some 22) (.int .i64 (i:Int)) ?_;refine b0F (some 23) (.int .i64 (((i:Int):Int)+1)) (b0U (k:=(i:Int)) (l:=1) (by omega) (by omega)) ?_;refine b0B (some 5) (.int .i64 (((i:Int):Int)+1)) ?_;refine b0H ?_;have hE:=b7h hgg;refine b1Q (i+1) [1,3,4,5] (by rw[hE];kernel_rfl) ⟨⟨by omega,HBC⟩,by omega⟩
   | false =>
    have hq:(decide (((i:Int):Int)<ps.length))=false:=by rw[hzc3]
    simp only[sB] at hq;have hi2:i=ps.length:=by omega
    have hME:40<msum ps i↔(6<ps.length∨ps.all (fun f=>b1P f.cmds 1)=false∨40<(ps.map fun f=>b0r f.cmds).sum):=by rw[hi2];exact c1l hp6
    clear hi hi2;refine b0K ?_;refine b1d ?_;refine b0T ?_;refine b0T ?_;refine b0h ?_;refine b0E ?_;refine b0G ?_;refine b0G ?_;refine b0D ?_;refine b0B (some 33) (.int .i64 (msum ps i)) ?_;obtain⟨zc4,hzc4⟩:∃b:Bool,decide ((40:Int)<(msum ps i))=b:=⟨_,rfl⟩;refine b0F (some 34) (.bool zc4) (b0Z (k:=(msum ps i)) (l:=40) hzc4) ?_;refine b0H ?_;refine b0E ?_;cases zc4 with
    | true =>
     have hq:(decide ((40:Int)<(msum ps i)))=true:=by rw[hzc4]
     simp only[sB] at hq;have HT0:T=2:=by rw[←hT,if_pos (hME.1 (by omega))]
     refine b0P ?_;refine b0G ?_;refine b0D ?_;refine b0B (some 2) (.int .i64 2) ?_;refine b0H ?_;refine b0E ?_;refine b0x ?_;refine b0N ?_;refine b0d 2 (.int .i64 2) ?_;exact⟨by rw[HT0],HB1.tr HBC⟩
    | false =>
     have hq:(decide ((40:Int)<(msum ps i)))=false:=by rw[hzc4]
     simp only[sB] at hq;rw[if_neg (fun h=>absurd (hME.2 h) (by omega))] at hT;have HE0:b2P (ps.map PF.params) 0 (ps.drop 0)=T:=by rw[←hT];rfl
     clear hT hms hME;refine b0K ?_;refine b0X ?_;refine b0E ?_;refine b0G ?_;refine b0G ?_;refine b0D ?_;refine b0B (some 6) (.int .i64 0) ?_;refine b0H ?_;refine b0E ?_;refine b0e ?_;refine b1e (α:=Nat) (fun i W=>i≤ps.length∧b2P (ps.map PF.params) i (ps.drop i)=T∧Bel W1 W) (fun i=>[(1,.pointer (some ⟨Q,0,none⟩)),(3,.int .i64 ps.length),(6,.int .i64 (i:Int))]) (fun i=>ps.length-i) 0 [1,3,6] (by kernel_rfl) ⟨Nat.zero_le _,HE0,HBC⟩ ?_;clear HBC HE0;rintro i WC ⟨hi,HE,HBC⟩;refine b0G ?_;refine b0G ?_;refine b0D ?_;refine b0B (some 35) (.int .i64 (i:Int)) ?_;refine b0B (some 36) (.int .i64 ps.length) ?_;obtain⟨zc5,hzc5⟩:∃b:Bool,decide (((i:Int):Int)<ps.length)=b:=⟨_,rfl⟩;refine b0F (some 37) (.bool zc5) (b0u (k:=(i:Int)) (l:=ps.length) hzc5) ?_;refine b0H ?_;refine b0E ?_;cases zc5 with
     | true =>
      have hq:(decide (((i:Int):Int)<ps.length))=true:=by rw[hzc5]
      simp only[sB] at hq;have hil:i<ps.length:=by omega
      obtain⟨g,hgg⟩:∃g,ps[i]? = some g:=⟨_,List.getElem?_eq_getElem hil⟩;obtain⟨bp,op,cs,rfl,HCS,hca0⟩:=hp.elem hgg;have hca:=hca0.keep (HB1.tr HBC);have HX:=c0H (pms:=ps.map PF.params) hgg;rw[HE] at HX;refine b0P ?_;refine b0X ?_;refine b0E ?_;refine b0G ?_;refine b0e ?_;refine b0G ?_;refine b0D ?_;refine b0B (some 40) (.pointer (some ⟨Q,0,none⟩)) ?_;refine b0F (some 41) (.slice (some ⟨bp,op,none⟩) ps.length cp) (b3X rfl (by kernel_rfl) ((HP1.keep HBC).cell (i:=0) (v:=.slice (some ⟨bp,op,none⟩) ps.length cp) rfl)) ?_;refine b0B (some 42) (.int .i64 (i:Int)) ?_;refine b0F (some 43) (.pointer (some ⟨bp,op+i*6,none⟩)) (b0t b6L bp op ps.length cp i hil) ?_;refine b4p FNT (.tmp 43) 44 7 ⟨rfl,rfl,rfl⟩ ⟨rfl,rfl,rfl⟩ ⟨rfl,rfl,rfl⟩ rfl bp (op+i*6) (by kernel_rfl) (by kernel_rfl) cs hca b6L (by kernel_rfl) (pfR.len HCS) (b6y HCS) ?_;refine b0H ?_;have HBA:=(Bel.rfl_ WC).al (.cells cs.toArray FNT);have HGB:=Blk.new WC FNT cs.toArray;obtain⟨vz,vc,vr,hq,HZ,HCM,HRS⟩:=HCS;obtain⟨Az,cz,rfl,hlz⟩:=b0R HZ;obtain⟨Ac,cc,rfl,-⟩:=b0R HCM;obtain⟨Ar,cr,rfl,-⟩:=b0R HRS;have HRX:PEV w g.result (.agg #[.int .i64 g.result.kind,.int .i64 g.result.n,.slice Ar g.result.args.length cr]):=⟨_,rfl,HRS⟩;subst hq;replace HBC:=HBC.tr HBA;generalize hWK:WC.alloc _=WK at *;clear hWK;generalize WC.heap.size=G at *;have HBG:=HB1.tr HBC;have HBD:=Bel.rfl_ WK;obtain⟨main,hmn⟩:∃b:Bool,b=decide (i+1=ps.length):=⟨_,rfl⟩;obtain⟨cl,hcln⟩:∃c:Int,c=((if i+1=ps.length then i else i+1:Nat):Int):=⟨_,rfl⟩;rw[←hmn,←hcln] at HX;have hcl0:0≤cl:=by omega
      have hcl1:cl≤ps.length:=by rw[hcln];split<;>omega
      obtain⟨F,hF⟩:∃F,g.err (ps.map PF.params) cl main=F:=⟨_,rfl⟩;rw[hF] at HX;unfold PF.err at hF;have HRET:=fun(v:Int) (h:F=v) (hv:v≠0)=>show T=v by rw[HX,h,b1I hv]
      refine b0E ?_;refine b0G ?_;refine b0G ?_;refine b0D ?_;refine b0B (some 45) (.pointer (some ⟨G,0,none⟩)) ?_;refine b0F (some 46) (.int .i64 g.params) (b0I ((HGB.keep HBD).cell (i:=0) (v:=.int .i64 g.params) rfl)) ?_;obtain⟨zc6,hzc6⟩:∃b:Bool,decide ((g.params:Int)<0)=b:=⟨_,rfl⟩;refine b0F (some 47) (.bool zc6) (b0u (k:=g.params) (l:=0) hzc6) ?_;refine b0B (some 48) (.bool zc6) ?_;obtain⟨zg7,hzg7⟩:∃b:Bool,b=(!zc6):=⟨_,rfl⟩;refine b0L (some 49) zg7 (.pointer (some ⟨G,0,none⟩)) (by subst hzg7;cases zc6<;>kernel_rfl) (fun hG=>by subst hzg7;obtain rfl:zc6=false:=(by revert hG;cases zc6<;>simp);kernel_rfl) ?_;refine b0L (some 50) zg7 (.int .i64 g.params) (by subst hzg7;cases zc6<;>kernel_rfl) (fun hG=>by subst hzg7;obtain rfl:zc6=false:=(by revert hG;cases zc6<;>simp);exact b0I ((HGB.keep HBD).cell (i:=0) (v:=.int .i64 g.params) rfl)) ?_;refine b0L (some 51) zg7 (.pointer (some ⟨G,1,none⟩)) (by subst hzg7;cases zc6<;>kernel_rfl) (fun hG=>by subst hzg7;obtain rfl:zc6=false:=(by revert hG;cases zc6<;>simp);kernel_rfl) ?_;refine b0L (some 52) zg7 (.slice Az g.sizes.length cz) (by subst hzg7;cases zc6<;>kernel_rfl) (fun hG=>by subst hzg7;obtain rfl:zc6=false:=(by revert hG;cases zc6<;>simp);exact b1F ((HGB.keep HBD).cell (i:=1) (v:=.slice Az g.sizes.length cz) rfl)) ?_;refine b0L (some 53) zg7 (.int .i64 g.sizes.length) (by subst hzg7;cases zc6<;>kernel_rfl) (fun hG=>by subst hzg7;obtain rfl:zc6=false:=(by revert hG;cases zc6<;>simp);kernel_rfl) ?_;obtain⟨zc8,hzc8⟩:∃b:Bool,decide ((g.sizes.length:Int)<g.params)=b:=⟨_,rfl⟩;refine b0L (some 54) zg7 (.bool zc8) (by subst hzg7;cases zc6<;>kernel_rfl) (fun hG=>by subst hzg7;obtain rfl:zc6=false:=(by revert hG;cases zc6<;>simp);exact b0Z (k:=g.params) (l:=g.sizes.length) hzc8) ?_;obtain⟨zr9,hzr9⟩:∃b:Bool,(zc6 || zc8)=b:=⟨_,rfl⟩;refine b0F (some 55) (.bool zr9) (by subst hzr9;cases zc6<;>(subst hzg7;kernel_rfl)) ?_;refine b0H ?_;refine b0E ?_;cases zr9 with
      | true =>
       have hq:((decide ((g.params:Int)<0)) || (decide ((g.sizes.length:Int)<g.params)))=true:=by rw[hzc6,hzc8,hzr9]
       simp only[sB] at hq;have HT0:T=3:=HRET 3 (by rw[←hF,if_pos (by omega)]) (by decide);refine b0P ?_;refine b0G ?_;refine b0D ?_;refine b0B (some 2) (.int .i64 3) ?_;refine b0H ?_;refine b0E ?_;refine b0x ?_;refine b0N ?_;refine b0Y ?_;refine b0N ?_;refine b0N ?_;refine b0Y ?_;refine b0N ?_;refine b0d 2 (.int .i64 3) ?_;exact⟨by rw[HT0],HBG.tr HBD⟩
      | false =>
       have hq:((decide ((g.params:Int)<0)) || (decide ((g.sizes.length:Int)<g.params)))=false:=by rw[hzc6,hzc8,hzr9]
       simp only[sB] at hq;rw[if_neg (by omega)] at hF;refine b0K ?_;refine b0X ?_;refine b0E ?_;refine b0G ?_;refine b0G ?_;refine b0D ?_;refine b0B (some 56) (.pointer (some ⟨G,0,none⟩)) ?_;refine b0F (some 57) (.int .i64 g.params) (b0I ((HGB.keep HBD).cell (i:=0) (v:=.int .i64 g.params) rfl)) ?_;obtain⟨zc10,hzc10⟩:∃b:Bool,decide ((3:Int)<g.params)=b:=⟨_,rfl⟩;refine b0F (some 58) (.bool zc10) (b0Z (k:=g.params) (l:=3) hzc10) ?_;refine b0B (some 59) (.bool zc10) ?_;obtain⟨zg11,hzg11⟩:∃b:Bool,b=(!zc10):=⟨_,rfl⟩;refine b0L (some 60) zg11 (.pointer (some ⟨G,1,none⟩)) (by subst hzg11;cases zc10<;>kernel_rfl) (fun hG=>by subst hzg11;obtain rfl:zc10=false:=(by revert hG;cases zc10<;>simp);kernel_rfl) ?_;refine b0L (some 61) zg11 (.slice Az g.sizes.length cz) (by subst hzg11;cases zc10<;>kernel_rfl) (fun hG=>by subst hzg11;obtain rfl:zc10=false:=(by revert hG;cases zc10<;>simp);exact b1F ((HGB.keep HBD).cell (i:=1) (v:=.slice Az g.sizes.length cz) rfl)) ?_;refine b0L (some 62) zg11 (.int .i64 g.sizes.length) (by subst hzg11;cases zc10<;>kernel_rfl) (fun hG=>by subst hzg11;obtain rfl:zc10=false:=(by revert hG;cases zc10<;>simp);kernel_rfl) ?_;refine b0L (some 63) zg11 (.pointer (some ⟨G,0,none⟩)) (by subst hzg11;cases zc10<;>kernel_rfl) (fun hG=>by subst hzg11;obtain rfl:zc10=false:=(by revert hG;cases zc10<;>simp);kernel_rfl) ?_;refine b0L (some 64) zg11 (.int .i64 g.params) (by subst hzg11;cases zc10<;>kernel_rfl) (fun hG=>by subst hzg11;obtain rfl:zc10=false:=(by revert hG;cases zc10<;>simp);exact b0I ((HGB.keep HBD).cell (i:=0) (v:=.int .i64 g.params) rfl)) ?_;refine b0L (some 65) zg11 (.int .i64 ((g.sizes.length:Int)-g.params)) (by subst hzg11;cases zc10<;>kernel_rfl) (fun hG=>by subst hzg11;obtain rfl:zc10=false:=(by revert hG;cases zc10<;>simp);exact b0n (k:=g.sizes.length) (l:=g.params) (by omega) (by omega) rfl) ?_;obtain⟨zc12,hzc12⟩:∃b:Bool,decide ((6:Int)<((g.sizes.length:Int)-g.params))=b:=⟨_,rfl⟩
       refine b0L (some 66) zg11 (.bool zc12) (by subst hzg11;cases zc10<;>kernel_rfl) (fun hG=>by subst hzg11;obtain rfl:zc10=false:=(by revert hG;cases zc10<;>simp);exact b0Z (k:=((g.sizes.length:Int)-g.params)) (l:=6) hzc12) ?_;obtain⟨zr13,hzr13⟩:∃b:Bool,(zc10 || zc12)=b:=⟨_,rfl⟩;refine b0F (some 67) (.bool zr13) (by subst hzr13;cases zc10<;>(subst hzg11;kernel_rfl)) ?_;refine b0H ?_;refine b0E ?_;cases zr13 with
       | true =>
        have hq:((decide ((3:Int)<g.params)) || (decide ((6:Int)<((g.sizes.length:Int)-g.params))))=true:=by rw[hzc10,hzc12,hzr13]
        simp only[sB] at hq;have HT0:T=2:=HRET 2 (by rw[←hF,if_pos (by omega)]) (by decide);refine b0P ?_;refine b0G ?_;refine b0D ?_;refine b0B (some 2) (.int .i64 2) ?_;refine b0H ?_;refine b0E ?_;refine b0x ?_;refine b0N ?_;refine b0Y ?_;refine b0N ?_;refine b0N ?_;refine b0Y ?_;refine b0N ?_;refine b0d 2 (.int .i64 2) ?_;exact⟨by rw[HT0],HBG.tr HBD⟩
       | false =>
        have hq:((decide ((3:Int)<g.params)) || (decide ((6:Int)<((g.sizes.length:Int)-g.params))))=false:=by rw[hzc10,hzc12,hzr13]
        simp only[sB] at hq;rw[if_neg (by omega)] at hF;refine b0K ?_;refine b0X ?_;refine b0E ?_;refine b0G ?_;refine b0G ?_;refine b0D ?_;refine b0B (some 8) (.int .i64 0) ?_;refine b0H ?_;refine b0E ?_;refine b0e ?_;refine b1e (α:=Nat) (fun k W=>k≤g.sizes.length∧(g.sizes.take k).all (fun n=>decide (0≤n∧n≤8))=true∧Bel WK W) (fun k=>[(1,.pointer (some ⟨Q,0,none⟩)),(3,.int .i64 ps.length),(6,.int .i64 (i:Int)),(7,.pointer (some ⟨G,0,none⟩)),(8,.int .i64 (k:Int))]) (fun k=>g.sizes.length-k) 0 [1,3,6,7,8] (by kernel_rfl) ⟨Nat.zero_le _,by simp,HBD⟩ ?_;clear HBD;rintro k WC ⟨hk,hka,HBD⟩;refine b0G ?_;refine b0G ?_;refine b0D ?_;refine b0B (some 68) (.int .i64 (k:Int)) ?_;refine b0B (some 69) (.pointer (some ⟨G,1,none⟩)) ?_;refine b0F (some 70) (.slice Az g.sizes.length cz) (b1F ((HGB.keep HBD).cell (i:=1) (v:=.slice Az g.sizes.length cz) rfl)) ?_;refine b0B (some 71) (.int .i64 g.sizes.length) ?_;obtain⟨zc14,hzc14⟩:∃b:Bool,decide (((k:Int):Int)<g.sizes.length)=b:=⟨_,rfl⟩;refine b0F (some 72) (.bool zc14) (b0u (k:=(k:Int)) (l:=g.sizes.length) hzc14) ?_;refine b0H ?_;refine b0E ?_;cases zc14 with
        | true =>
         have hq:(decide (((k:Int):Int)<g.sizes.length))=true:=by rw[hzc14]
         simp only[sB] at hq;have hkl:k<g.sizes.length:=by omega
         obtain⟨y,hy⟩:∃y,g.sizes[k]? = some y:=⟨_,List.getElem?_eq_getElem hkl⟩;obtain⟨bz,oz,rfl,hcz⟩:=b2b HZ hy;have hyc:=(HBG.tr HBD).cell hcz;refine b0P ?_;refine b0X ?_;refine b0E ?_;refine b0G ?_;refine b0e ?_;refine b0G ?_;refine b0D ?_;refine b0B (some 75) (.pointer (some ⟨G,1,none⟩)) ?_;refine b0F (some 76) (.slice (some ⟨bz,oz,none⟩) g.sizes.length cz) (b1F ((HGB.keep HBD).cell (i:=1) (v:=.slice (some ⟨bz,oz,none⟩) g.sizes.length cz) rfl)) ?_;refine b0B (some 77) (.int .i64 (k:Int)) ?_;refine b0F (some 78) (.pointer (some ⟨bz,oz+k,none⟩)) (b7E elI bz oz g.sizes.length cz k rfl (by kernel_rfl) (by kernel_rfl) hkl) ?_;refine b0F (some 79) (.int .i64 y) (b0I hyc) ?_;obtain⟨zb15,hzb15⟩:∃b:Bool,decide ((0:Int)≤y∧(y:Int)≤8)=b:=⟨_,rfl⟩;refine b1c (some 80) (.bool zb15) 48 #[.int .i64 y,.int .i64 0,.int .i64 8] (b7d hzb15) ?_;intro WC hb;replace HBD:=HBD.tr hb;clear hb;obtain⟨zr16,hzr16⟩:∃b:Bool,(!zb15)=b:=⟨_,rfl⟩;refine b0F (some 81) (.bool zr16) (by subst hzr16;kernel_rfl) ?_;refine b0H ?_;refine b0E ?_;cases zr16 with
         | true =>
          have hq:(!(decide ((0:Int)≤y∧(y:Int)≤8)))=true:=by rw[hzb15,hzr16]
          simp only[sB] at hq;have HT0:T=3:=HRET 3 (by rw[←hF,if_pos (b9y hy (decide_eq_false (by omega)))]) (by decide);refine b0P ?_;refine b0G ?_;refine b0D ?_;refine b0B (some 2) (.int .i64 3) ?_;refine b0H ?_;refine b0E ?_;refine b0x ?_;refine b0Y ?_;refine b0N ?_;refine b0N ?_;refine b0Y ?_;refine b0N ?_;refine b0Y ?_;refine b0N ?_;refine b0N ?_;refine b0Y ?_;refine b0N ?_;refine b0d 2 (.int .i64 3) ?_;exact⟨by rw[HT0],HBG.tr HBD⟩
         | false =>
          have hq:(!(decide ((0:Int)≤y∧(y:Int)≤8)))=false:=by rw[hzb15,hzr16]
          simp only[sB] at hq;refine b0K ?_;refine b0X ?_;refine b0Q ?_;refine b0E ?_;refine b0D ?_;refine b0B (some 73) (.int .i64 (k:Int)) ?_;refine b0F (some 74) (.int .i64 (((k:Int):Int)+1)) (b0U (k:=(k:Int)) (l:=1) (by omega) (by omega)) ?_;refine b0B (some 8) (.int .i64 (((k:Int):Int)+1)) ?_;refine b0H ?_;refine b0V (k+1) [1,3,6,7,8] ⟨⟨by omega,by rw[b8f hy,hka,decide_eq_true (by omega)];rfl,HBD⟩,by omega⟩
        | false =>
         have hq:(decide (((k:Int):Int)<g.sizes.length))=false:=by rw[hzc14]
         simp only[sB] at hq;have hk2:k=g.sizes.length:=by omega
         rw[hk2,List.take_length] at hka;rw[if_neg (by rw[hka];decide)] at hF;clear hka hk hk2;refine b0K ?_;refine b1d ?_;refine b0T ?_;refine b0T ?_;refine b0h ?_;refine b0E ?_;refine b0G ?_;refine b0G ?_;refine b0D ?_;refine b0B (some 9) (.int .i64 0) ?_;refine b0H ?_;refine b0E ?_;refine b0e ?_;refine b1e (α:=Nat) (fun k W=>(k:Int)≤g.params∧(g.sizes.take k).all (fun n=>decide (n=0))=true∧Bel WK W) (fun k=>[(1,.pointer (some ⟨Q,0,none⟩)),(3,.int .i64 ps.length),(6,.int .i64 (i:Int)),(7,.pointer (some ⟨G,0,none⟩)),(9,.int .i64 (k:Int))]) (fun k=>g.params.toNat-k) 0 [1,3,6,7,9] (by kernel_rfl) ⟨by omega,by simp,HBD⟩ ?_;clear HBD;rintro k WC ⟨hk,hka,HBD⟩;refine b0G ?_;refine b0G ?_;refine b0D ?_;refine b0B (some 82) (.int .i64 (k:Int)) ?_;refine b0B (some 83) (.pointer (some ⟨G,0,none⟩)) ?_;refine b0F (some 84) (.int .i64 g.params) (b0I ((HGB.keep HBD).cell (i:=0) (v:=.int .i64 g.params) rfl)) ?_;obtain⟨zc17,hzc17⟩:∃b:Bool,decide (((k:Int):Int)<g.params)=b:=⟨_,rfl⟩;refine b0F (some 85) (.bool zc17) (b0u (k:=(k:Int)) (l:=g.params) hzc17) ?_;refine b0H ?_;refine b0E ?_;cases zc17 with
         | true =>
          have hq:(decide (((k:Int):Int)<g.params))=true:=by rw[hzc17]
          simp only[sB] at hq;have hkl:k<g.sizes.length:=by omega
          obtain⟨y,hy⟩:∃y,g.sizes[k]? = some y:=⟨_,List.getElem?_eq_getElem hkl⟩;obtain⟨bz,oz,rfl,hcz⟩:=b2b HZ hy;have hyc:=(HBG.tr HBD).cell hcz;refine b0P ?_;refine b0X ?_;refine b0E ?_;refine b0G ?_;refine b0e ?_;refine b0G ?_;refine b0D ?_;refine b0B (some 88) (.pointer (some ⟨G,1,none⟩)) ?_;refine b0F (some 89) (.slice (some ⟨bz,oz,none⟩) g.sizes.length cz) (b1F ((HGB.keep HBD).cell (i:=1) (v:=.slice (some ⟨bz,oz,none⟩) g.sizes.length cz) rfl)) ?_;refine b0B (some 90) (.int .i64 (k:Int)) ?_;refine b0F (some 91) (.pointer (some ⟨bz,oz+k,none⟩)) (b7E elI bz oz g.sizes.length cz k rfl (by kernel_rfl) (by kernel_rfl) hkl) ?_;refine b0F (some 92) (.int .i64 y) (b0I hyc) ?_;obtain⟨zc18,hzc18⟩:∃b:Bool,((y:Int) != 0)=b:=⟨_,rfl⟩;refine b0F (some 93) (.bool zc18) (b1a (k:=y) (l:=0) hzc18) ?_;refine b0H ?_;refine b0E ?_;cases zc18 with
          | true =>
           have hq:(((y:Int) != 0))=true:=by rw[hzc18]
           simp only[sB] at hq;have HT0:T=1:=HRET 1 (by rw[←hF,if_pos (Or.inl (b9y (l:=g.sizes.take g.params.toNat) (i:=k) (by rw[List.getElem?_take,if_pos (by omega)];exact hy) (decide_eq_false hq)))]) (by decide);refine b0P ?_;refine b0G ?_;refine b0D ?_;refine b0B (some 2) (.int .i64 1) ?_;refine b0H ?_;refine b0E ?_;refine b0x ?_;refine b0Y ?_;refine b0N ?_;refine b0N ?_;refine b0Y ?_;refine b0N ?_;refine b0Y ?_;refine b0N ?_;refine b0N ?_;refine b0Y ?_;refine b0N ?_;refine b0d 2 (.int .i64 1) ?_;exact⟨by rw[HT0],HBG.tr HBD⟩
          | false =>
           have hq:(((y:Int) != 0))=false:=by rw[hzc18]
           simp only[sB] at hq;refine b0K ?_;refine b0X ?_;refine b0Q ?_;refine b0E ?_;refine b0D ?_;refine b0B (some 86) (.int .i64 (k:Int)) ?_;refine b0F (some 87) (.int .i64 (((k:Int):Int)+1)) (b0U (k:=(k:Int)) (l:=1) (by omega) (by omega)) ?_;refine b0B (some 9) (.int .i64 (((k:Int):Int)+1)) ?_;refine b0H ?_;refine b0V (k+1) [1,3,6,7,9] ⟨⟨by omega,by rw[b8f hy,hka,decide_eq_true (by omega)];rfl,HBD⟩,by omega⟩
         | false =>
          have hq:(decide (((k:Int):Int)<g.params))=false:=by rw[hzc17]
          simp only[sB] at hq;obtain hkp:g.params.toNat=k:=by omega
          rw[hkp,hka] at hF;clear hka hk hkp;refine b0K ?_;refine b1d ?_;refine b0T ?_;refine b0T ?_;refine b0h ?_;refine b0E ?_;refine b0G ?_;refine b0D ?_;refine b0B (some 94) (.int .i64 (i:Int)) ?_;refine b0F (some 95) (.int .i64 (((i:Int):Int)+1)) (b0U (k:=(i:Int)) (l:=1) (by omega) (by omega)) ?_;refine b0B (some 10) (.int .i64 (((i:Int):Int)+1)) ?_;refine b0H ?_;refine b0E ?_;refine b1y (α:=Unit) (fun _ W=>¬(main=true∧0<g.params)∧Bel WK W) (fun _=>[(1,.pointer (some ⟨Q,0,none⟩)),(3,.int .i64 ps.length),(6,.int .i64 (i:Int)),(7,.pointer (some ⟨G,0,none⟩)),(10,.int .i64 cl)]) ?_ ?_
          ·skip
           refine b0G ?_;refine b0D ?_;refine b0B (some 96) (.int .i64 (i:Int)) ?_;refine b0B (some 97) (.int .i64 ps.length) ?_;refine b0F (some 98) (.int .i64 ((ps.length:Int)-1)) (b0n (k:=ps.length) (l:=1) (by omega) (by omega) rfl) ?_;obtain⟨zc19,hzc19⟩:∃b:Bool,(((i:Int):Int)==((ps.length:Int)-1))=b:=⟨_,rfl⟩;refine b0F (some 99) (.bool zc19) (b0b (k:=(i:Int)) (l:=((ps.length:Int)-1)) hzc19) ?_;refine b0H ?_;refine b0E ?_;cases zc19 with
           | true =>
            have hq:((((i:Int):Int)==((ps.length:Int)-1)))=true:=by rw[hzc19]
            simp only[sB] at hq;refine b0P ?_;refine b0G ?_;refine b0D ?_;refine b0B (some 100) (.int .i64 (i:Int)) ?_;refine b0B (some 10) (.int .i64 (i:Int)) ?_;refine b0H ?_;refine b0E ?_;refine b0G ?_;refine b0D ?_;refine b0B (some 101) (.pointer (some ⟨G,0,none⟩)) ?_;refine b0F (some 102) (.int .i64 g.params) (b0I ((HGB.keep HBD).cell (i:=0) (v:=.int .i64 g.params) rfl)) ?_;obtain⟨zc20,hzc20⟩:∃b:Bool,decide ((0:Int)<g.params)=b:=⟨_,rfl⟩;refine b0F (some 103) (.bool zc20) (b0Z (k:=g.params) (l:=0) hzc20) ?_;refine b0H ?_;refine b0E ?_;cases zc20 with
            | true =>
             have hq2:(decide ((0:Int)<g.params))=true:=by rw[hzc20]
             simp only[sB] at hq2;have HT0:T=1:=HRET 1 (by rw[←hF,if_pos (Or.inr ⟨by rw[hmn];exact decide_eq_true (by omega),by omega⟩)]) (by decide);refine b0P ?_;refine b0G ?_;refine b0D ?_;refine b0B (some 2) (.int .i64 1) ?_;refine b0H ?_;refine b0E ?_;refine b0x ?_;refine b0N ?_;refine b0Y ?_;refine b0N ?_;refine b0N ?_;refine b0Y ?_;refine b0N ?_;refine b0d 2 (.int .i64 1) ?_;exact⟨by rw[HT0],HBG.tr HBD⟩
            | false =>
             have hq2:(decide ((0:Int)<g.params))=false:=by rw[hzc20]
             simp only[sB] at hq2;refine b0K ?_;refine b0X ?_;have hE:cl=(i:Int):=by rw[hcln];split<;>omega
             refine b1Q () [1,3,6,7,10] (by rw[hE];kernel_rfl) ⟨?_,HBD⟩;rintro⟨h1,h2⟩;have:=of_decide_eq_true (hmn.symm.trans h1);omega
           | false =>
            have hq:((((i:Int):Int)==((ps.length:Int)-1)))=false:=by rw[hzc19]
            simp only[sB] at hq;refine b0K ?_;refine b0X ?_;have hE:cl=(((i:Int):Int)+1):=by rw[hcln];split<;>omega
            refine b1Q () [1,3,6,7,10] (by rw[hE];kernel_rfl) ⟨?_,HBD⟩;rintro⟨h1,h2⟩;have:=of_decide_eq_true (hmn.symm.trans h1);omega
          rintro-WC ⟨hnm,HBD⟩;rw[if_neg (by rintro(h | h);exact Bool.noConfusion h;exact hnm h)] at hF;refine b0G ?_;refine b0D ?_;refine b0F (some 104) (.agg #[.slice (some ⟨bp,op,none⟩) ps.length cp]) (b1b ((HP1.keep (HBC.tr HBD)).cell (i:=0) rfl)) ?_;refine b0F (some 105) (.agg #[.int .i64 g.params,.slice Az g.sizes.length cz,.slice Ac g.cmds.length cc,.int .i64 g.result.kind,.int .i64 g.result.n,.slice Ar g.result.args.length cr]) (b0S FNT (.tmp 7) b6L G 0 [.int .i64 g.params,.slice Az g.sizes.length cz,.slice Ac g.cmds.length cc,.int .i64 g.result.kind,.int .i64 g.result.n,.slice Ar g.result.args.length cr] (b0g (HGB.keep HBD) 0 rfl) rfl) ?_;refine b0B (some 106) (.int .i64 cl) ?_;refine b0B (some 107) (.pointer (some ⟨G,2,none⟩)) ?_;refine b0F (some 108) (.slice Ac g.cmds.length cc) (b0p ((HGB.keep HBD).cell (i:=2) (v:=.slice Ac g.cmds.length cc) rfl)) ?_;refine b1c (some 109) (.int .i64 (b1U (ps.map PF.params) g.sizes cl g.cmds)) 55 #[.agg #[.slice (some ⟨bp,op,none⟩) ps.length cp],.agg #[.int .i64 g.params,.slice Az g.sizes.length cz,.slice Ac g.cmds.length cc,.int .i64 g.result.kind,.int .i64 g.result.n,.slice Ar g.result.args.length cr],.int .i64 cl,.slice Ac g.cmds.length cc] (b6f ps g.sizes cl hcl0 hcl1 (by omega) g.cmds _ _ _ _ (hp.keep (HBG.tr HBD)) ⟨_,_,_,_,_,_,_,_,_,_,_,rfl,HZ.keep (HBG.tr HBD)⟩ (HCM.keep (HBG.tr HBD))) ?_;intro WC hb;replace HBD:=HBD.tr hb;clear hb;refine b0B (some 11) (.int .i64 (b1U (ps.map PF.params) g.sizes cl g.cmds)) ?_;refine b0H ?_;obtain⟨e1,he1⟩:∃e1,b1U (ps.map PF.params) g.sizes cl g.cmds=e1:=⟨_,rfl⟩;rw[he1] at hF;rw[he1];refine b0E ?_;refine b1y (α:=Int) (fun q W=>q=orE e1 (if main=true then(if g.result.none_=true then 0 else 1) else 0)∧Bel WK W) (fun q=>[(1,.pointer (some ⟨Q,0,none⟩)),(3,.int .i64 ps.length),(6,.int .i64 (i:Int)),(7,.pointer (some ⟨G,0,none⟩)),(11,.int .i64 q)]) ?_ ?_
          ·skip
           refine b0G ?_;refine b0D ?_;refine b0B (some 110) (.int .i64 e1) ?_;obtain⟨zc21,hzc21⟩:∃b:Bool,((e1:Int)==0)=b:=⟨_,rfl⟩;refine b0F (some 111) (.bool zc21) (b2L (k:=e1) (l:=0) rfl (by kernel_rfl) (by kernel_rfl) hzc21) ?_;refine b0B (some 112) (.bool zc21) ?_;refine b0L (some 113) zc21 (.int .i64 (i:Int)) (by cases zc21<;>kernel_rfl) (fun hG=>by subst hG;kernel_rfl) ?_;refine b0L (some 114) zc21 (.int .i64 ps.length) (by cases zc21<;>kernel_rfl) (fun hG=>by subst hG;kernel_rfl) ?_;refine b0L (some 115) zc21 (.int .i64 ((ps.length:Int)-1)) (by cases zc21<;>kernel_rfl) (fun hG=>by subst hG;exact b0n (k:=ps.length) (l:=1) (by omega) (by omega) rfl) ?_;obtain⟨zc22,hzc22⟩:∃b:Bool,(((i:Int):Int)==((ps.length:Int)-1))=b:=⟨_,rfl⟩;refine b0L (some 116) zc21 (.bool zc22) (by cases zc21<;>kernel_rfl) (fun hG=>by subst hG;exact b0b (k:=(i:Int)) (l:=((ps.length:Int)-1)) hzc22) ?_;obtain⟨zr23,hzr23⟩:∃b:Bool,(zc21 && zc22)=b:=⟨_,rfl⟩;refine b0F (some 117) (.bool zr23) (by subst hzr23;cases zc21<;>(kernel_rfl)) ?_;refine b0B (some 118) (.bool zr23) ?_;refine b0L (some 119) zr23 (.pointer (some ⟨G,3,none⟩)) (by cases zr23<;>kernel_rfl) (fun hG=>by subst hG;kernel_rfl) ?_;refine b0L (some 120) zr23 (.agg #[.int .i64 g.result.kind,.int .i64 g.result.n,.slice Ar g.result.args.length cr]) (by cases zr23<;>kernel_rfl) (fun hG=>by subst hG;exact b0S 47 (.tmp 119) b3x G 3 [.int .i64 g.result.kind,.int .i64 g.result.n,.slice Ar g.result.args.length cr] (b0g (HGB.keep HBD) 3 rfl) rfl) ?_;obtain⟨zb24,hzb24⟩:∃b:Bool,g.result.none_=b:=⟨_,rfl⟩;refine b3j (some 121) zr23 (.bool zb24) (by kernel_rfl) (by kernel_rfl) (by cases zr23<;>kernel_rfl) 56 #[.agg #[.int .i64 g.result.kind,.int .i64 g.result.n,.slice Ar g.result.args.length cr]] (fun hG=>by subst hG;kernel_rfl) (hzb24▸b3e g.result _ _ (HRX.keep (HBG.tr HBD))) ?_;intro WC hb;replace HBD:=HBD.tr hb;clear hb;obtain⟨zr25,hzr25⟩:∃b:Bool,(!zb24)=b:=⟨_,rfl⟩
           refine b0L (some 122) zr23 (.bool zr25) (by cases zr23<;>kernel_rfl) (fun hG=>by subst hG;subst hzr25;kernel_rfl) ?_;obtain⟨zr26,hzr26⟩:∃b:Bool,(zr23 && zr25)=b:=⟨_,rfl⟩;refine b0F (some 123) (.bool zr26) (by subst hzr26;cases zr23<;>(kernel_rfl)) ?_;refine b0H ?_;refine b0E ?_;cases zr26 with
           | true =>
            have hq:(((((e1:Int)==0)) && ((((i:Int):Int)==((ps.length:Int)-1)))) && (!(g.result.none_)))=true:=by rw[hzc21,hzc22,hzr23,hzb24,hzr25,hzr26]
            simp only[sB] at hq;obtain⟨⟨he0,him⟩,hnn⟩:=hq;have hm:main=true:=by rw[hmn];exact decide_eq_true (by omega)
            have hM:(1:Int)=orE e1 (if main=true then(if g.result.none_=true then 0 else 1) else 0):=by rw[he0,b3P,if_pos hm,if_neg (by rw[hnn];decide)]
            refine b0P ?_;refine b0D ?_;refine b0B (some 11) (.int .i64 1) ?_;refine b0H ?_;refine b0V (1:Int) [1,3,6,7,11] ⟨?_,HBD⟩;exact hM
           | false =>
            have hq:(((((e1:Int)==0)) && ((((i:Int):Int)==((ps.length:Int)-1)))) && (!(g.result.none_)))=false:=by rw[hzc21,hzc22,hzr23,hzb24,hzr25,hzr26]
            simp only[sB] at hq
            have hM:e1=orE e1 (if main=true then(if g.result.none_=true then 0 else 1) else 0):=by
             by_cases he0:e1=0
             ·by_cases him:i+1=ps.length
              ·have hn:g.result.none_=true:=by
                rcases hq with(h | h) | h
                ·omega
                ·omega
                ·exact h
               rw[he0,b3P,if_pos (by rw[hmn];exact decide_eq_true him),if_pos hn]
              ·rw[he0,b3P,if_neg (by rw[hmn,decide_eq_false him];decide)]
             ·rw[b1I he0]
            refine b0K ?_;refine b0X ?_;refine b0V (e1:Int) [1,3,6,7,11] ⟨?_,HBD⟩;exact hM
          rintro e2 WC ⟨he2,HBD⟩;refine b1y (α:=Int) (fun q W=>q=orE e2 (if main=true then 0 else g.result.err g.sizes)∧Bel WK W) (fun q=>[(1,.pointer (some ⟨Q,0,none⟩)),(3,.int .i64 ps.length),(6,.int .i64 (i:Int)),(7,.pointer (some ⟨G,0,none⟩)),(11,.int .i64 q)]) ?_ ?_
          ·skip
           refine b0G ?_;refine b0D ?_;refine b0B (some 124) (.int .i64 e2) ?_;obtain⟨zc27,hzc27⟩:∃b:Bool,((e2:Int)==0)=b:=⟨_,rfl⟩;refine b0F (some 125) (.bool zc27) (b2L (k:=e2) (l:=0) rfl (by kernel_rfl) (by kernel_rfl) hzc27) ?_;refine b0B (some 126) (.bool zc27) ?_;refine b0L (some 127) zc27 (.int .i64 (i:Int)) (by cases zc27<;>kernel_rfl) (fun hG=>by subst hG;kernel_rfl) ?_;refine b0L (some 128) zc27 (.int .i64 ps.length) (by cases zc27<;>kernel_rfl) (fun hG=>by subst hG;kernel_rfl) ?_;refine b0L (some 129) zc27 (.int .i64 ((ps.length:Int)-1)) (by cases zc27<;>kernel_rfl) (fun hG=>by subst hG;exact b0n (k:=ps.length) (l:=1) (by omega) (by omega) rfl) ?_;obtain⟨zc28,hzc28⟩:∃b:Bool,decide (((i:Int):Int)<((ps.length:Int)-1))=b:=⟨_,rfl⟩;refine b0L (some 130) zc27 (.bool zc28) (by cases zc27<;>kernel_rfl) (fun hG=>by subst hG;exact b0u (k:=(i:Int)) (l:=((ps.length:Int)-1)) hzc28) ?_;obtain⟨zr29,hzr29⟩:∃b:Bool,(zc27 && zc28)=b:=⟨_,rfl⟩;refine b0F (some 131) (.bool zr29) (by subst hzr29;cases zc27<;>(kernel_rfl)) ?_;refine b0H ?_;refine b0E ?_;cases zr29 with
           | true =>
            have hq:((((e2:Int)==0)) && (decide (((i:Int):Int)<((ps.length:Int)-1))))=true:=by rw[hzc27,hzc28,hzr29]
            simp only[sB] at hq;obtain⟨he0,him⟩:=hq;have hm:main=false:=by rw[hmn];exact decide_eq_false (by omega)
            have hM:g.result.err g.sizes=orE e2 (if main=true then 0 else g.result.err g.sizes):=by rw[he0,b3P,if_neg (by rw[hm];decide)]
            refine b0P ?_;refine b0D ?_;refine b0B (some 132) (.pointer (some ⟨G,3,none⟩)) ?_;refine b0F (some 133) (.agg #[.int .i64 g.result.kind,.int .i64 g.result.n,.slice Ar g.result.args.length cr]) (b0S 47 (.tmp 132) b3x G 3 [.int .i64 g.result.kind,.int .i64 g.result.n,.slice Ar g.result.args.length cr] (b0g (HGB.keep HBD) 3 rfl) rfl) ?_;refine b0B (some 134) (.pointer (some ⟨G,1,none⟩)) ?_;refine b0F (some 135) (.slice Az g.sizes.length cz) (b1F ((HGB.keep HBD).cell (i:=1) (v:=.slice Az g.sizes.length cz) rfl)) ?_;refine b1c (some 136) (.int .i64 (g.result.err g.sizes)) 57 #[.agg #[.int .i64 g.result.kind,.int .i64 g.result.n,.slice Ar g.result.args.length cr],.slice Az g.sizes.length cz] (b2j g.sizes g.result _ _ _ (HRX.keep (HBG.tr HBD)) (HZ.keep (HBG.tr HBD))) ?_;intro WC hb;replace HBD:=HBD.tr hb;clear hb;refine b0B (some 11) (.int .i64 (g.result.err g.sizes)) ?_;refine b0H ?_;refine b0V ((g.result.err g.sizes):Int) [1,3,6,7,11] ⟨?_,HBD⟩;exact hM
           | false =>
            have hq:((((e2:Int)==0)) && (decide (((i:Int):Int)<((ps.length:Int)-1))))=false:=by rw[hzc27,hzc28,hzr29]
            simp only[sB] at hq
            have hM:e2=orE e2 (if main=true then 0 else g.result.err g.sizes):=by
             by_cases he0:e2=0
             ·rw[he0,b3P,if_pos (by rw[hmn];exact decide_eq_true (by omega))]
             ·rw[b1I he0]
            refine b0K ?_;refine b0X ?_;refine b0V (e2:Int) [1,3,6,7,11] ⟨?_,HBD⟩;exact hM
          rintro e3 WC ⟨he3,HBD⟩;refine b0G ?_;refine b0D ?_;refine b0B (some 137) (.int .i64 e3) ?_;obtain⟨zc30,hzc30⟩:∃b:Bool,((e3:Int) != 0)=b:=⟨_,rfl⟩;refine b0F (some 138) (.bool zc30) (b8P (k:=e3) (l:=0) rfl (by kernel_rfl) (by kernel_rfl) hzc30) ?_;refine b0H ?_;refine b0E ?_;cases zc30 with
          | true =>
           have hq:(((e3:Int) != 0))=true:=by rw[hzc30]
           simp only[sB] at hq
           have hFe:F=e3:=by
            rw[←hF,he3,he2];cases main<;>simp only[Bool.false_eq_true,if_false,if_true,b2v]
           have HT0:T=e3:=by rw[HX,hFe,b1I (a:=e3) hq]
           refine b0P ?_;refine b0G ?_;refine b0D ?_;refine b0B (some 139) (.int .i64 e3) ?_;refine b0B (some 2) (.int .i64 e3) ?_;refine b0H ?_;refine b0E ?_;refine b0x ?_;refine b0Y ?_;refine b0N ?_;refine b0N ?_;refine b0Y ?_;refine b0N ?_;refine b0d 2 (.int .i64 e3) ?_;exact⟨by rw[HT0],HBG.tr HBD⟩
          | false =>
           have hq:(((e3:Int) != 0))=false:=by rw[hzc30]
           simp only[sB] at hq
           have hFe:F=e3:=by
            rw[←hF,he3,he2];cases main<;>simp only[Bool.false_eq_true,if_false,if_true,b2v]
           have HNX:b2P (ps.map PF.params) (i+1) (ps.drop (i+1))=T:=by rw[HX,hFe,hq,b3P]
           refine b0K ?_;refine b0X ?_;refine b0Q ?_;refine b0E ?_;refine b0D ?_;refine b0B (some 38) (.int .i64 (i:Int)) ?_;refine b0F (some 39) (.int .i64 (((i:Int):Int)+1)) (b0U (k:=(i:Int)) (l:=1) (by omega) (by omega)) ?_;refine b0B (some 6) (.int .i64 (((i:Int):Int)+1)) ?_;refine b0H ?_;refine b0V (i+1) [1,3,6] ⟨⟨by omega,HNX,HBC.tr HBD⟩,by omega⟩
     | false =>
      have hq:(decide (((i:Int):Int)<ps.length))=false:=by rw[hzc5]
      simp only[sB] at hq;have HT0:T=0:=by rw[←HE,List.drop_eq_nil_of_le (by omega),b2P]
      refine b0K ?_;refine b1d ?_;refine b0T ?_;refine b0T ?_;refine b0h ?_;refine b0E ?_;refine b0G ?_;refine b0D ?_;refine b0B (some 2) (.int .i64 0) ?_;refine b0H ?_;refine b0E ?_;refine b0x ?_;refine b0d 2 (.int .i64 0) ?_;exact⟨by rw[HT0],HB1.tr HBC⟩
end Go.Proofs.Ytgkpplbomciehaa
