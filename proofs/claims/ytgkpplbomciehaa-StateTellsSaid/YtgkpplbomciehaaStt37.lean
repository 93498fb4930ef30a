/- The beginning of a trace, as the document asks for it: walked; TraceRight. Each lemma states its own conditions. -/
import Derived.Test.YtgkpplbomciehaaStt33
import Derived.Test.YtgkpplbomciehaaStt36
namespace Go.Proofs.Ytgkpplbomciehaa
set_option maxRecDepth 20000
open Go.RowKit
section
variable {o:Oper}{ρ:Operand→Value}{W:World}{x y:Operand}{A:Option Addr}{n c:Nat}{j:Int}
theorem c0m(ho:o.op=.slice 27 x none (some y) none)(hx:ρ x=.slice A n c)(hy:ρ y=.int .i64 j)(h0:0≤j)(h1:j≤c):(execOp ρ o).run Try.prog W=.ok (.value (.slice A j.toNat c)) W:=by
 have e0:∀a:Addr,a.add 0=a:=fun a=>by simp[Addr.add]
 by_cases hc:c=0
 ·subst hc;obtain rfl:j=0:=by omega
  cases A<;>simp[execOp,ho,hx,hy,go_sem]
 ·cases A<;>simp[execOp,ho,hx,hy,go_sem,h0,h1,hc,e0]
theorem c3S(ho:o.op=.slice 23 x none (some y) none)(hx:ρ x=.slice A n c)(hy:ρ y=.int .i64 j)(h0:0≤j)(h1:j≤c):(execOp ρ o).run Try.prog W=.ok (.value (.slice A j.toNat c)) W:=by
 have e0:∀a:Addr,a.add 0=a:=fun a=>by simp[Addr.add]
 by_cases hc:c=0
 ·subst hc;obtain rfl:j=0:=by omega
  cases A<;>simp[execOp,ho,hx,hy,go_sem]
 ·cases A<;>simp[execOp,ho,hx,hy,go_sem,h0,h1,hc,e0]
end
theorem Sl.take_{α:Type}{r:Rep α}{w:World}{A:Option Addr}{n c:Nat}{l:List α}(h:Sl r w (.slice A n c) l){N:Nat}(hN:N≤l.length):Sl r w (.slice A N c) (l.take N)∧l.length≤c:=by
 obtain⟨A',c',he,h2,h3,h4⟩:=h;injection he with e1 _ e3;subst e1 e3;have h5:=Sl.cut (r:=r) (w:=w) (A:=A) (A':=A) (C':=c) (i:=0) (j:=N) h2 h3 h4 hN (by cases A<;>simp[Addr.add]) rfl;exact⟨by rwa [List.drop_zero,Nat.sub_zero] at h5,h2⟩
theorem b3J(l out:List Ev)(v u:Value)(w:World)(hl:Sl evR w v l)(hu:Sl evR w u out)(h1:b5g l.length)(_h2:b5g out.length) :
  Calls Try.prog 78 #[v,u] w fun r w'=>r=.returned (.bool (decide (l.length≤out.length∧out.take l.length=l)))∧Bel w w':=by
 obtain⟨Al,cl,rfl,-⟩:=b0R hl;obtain⟨Ao,co,rfl,-⟩:=b0R hu;have HBC:=Bel.rfl_ w;refine b1H (c:=_) (args:=[.slice Al l.length cl,.slice Ao out.length co]) Try.func78 rfl Try.ntmps78 (by kernel_rfl) ?_;refine b0G ?_;refine b0D ?_;refine b0B (some 4) (.bool false) ?_;refine b0H ?_;refine b0E ?_;refine b0G ?_;refine b0D ?_;refine b0B (some 5) (.slice Al l.length cl) ?_;refine b0B (some 6) (.int .i64 l.length) ?_;refine b0B (some 7) (.slice Ao out.length co) ?_;refine b0B (some 8) (.int .i64 out.length) ?_;obtain⟨zc1,hzc1⟩:∃b:Bool,decide ((l.length:Int)≤out.length)=b:=⟨_,rfl⟩;refine b0F (some 9) (.bool zc1) (b4l (k:=l.length) (l:=out.length) rfl (by kernel_rfl) (by kernel_rfl) hzc1) ?_;refine b0B (some 10) (.bool zc1) ?_;cases zc1
 ·skip
  have hq:(decide ((l.length:Int)≤out.length))=false:=by rw[hzc1]
  simp only[sB] at hq;refine b0J (some 11) ?_;refine b0J (some 12) ?_;refine b0J (some 13) ?_;refine b0J (some 14) ?_;refine b0J (some 15) ?_;refine b0J (some 16) ?_;refine b0B (some 17) (.bool false) ?_;refine b0B (some 4) (.bool false) ?_;refine b0H ?_;refine b0E ?_;refine b0x ?_;refine b0d 4 (.bool false) ?_;exact⟨by rw[decide_eq_false (fun hh=>by omega)],HBC⟩
 ·skip
  have hq:(decide ((l.length:Int)≤out.length))=true:=by rw[hzc1]
  simp only[sB] at hq;have hle:l.length≤out.length:=by omega
  have HT:=(hu.take_ hle).1;have hco:=(hu.take_ hle).2;refine b0B (some 11) (.slice Al l.length cl) ?_;refine b0B (some 12) (.slice Ao out.length co) ?_;refine b0B (some 13) (.slice Al l.length cl) ?_;refine b0B (some 14) (.int .i64 l.length) ?_;refine b0F (some 15) (.slice Ao l.length co) (c0m (A:=Ao) (n:=out.length) (c:=co) (j:=(l.length:Int)) rfl (by kernel_rfl) (by kernel_rfl) (by omega) (by omega)) ?_;obtain⟨zb9,hzb9⟩:∃b:Bool,decide (l=out.take l.length)=b:=⟨_,rfl⟩;refine b1c (some 16) (.bool zb9) 33 #[.slice Al l.length cl,.slice Ao l.length co] (hzb9▸b6B _ _ l (out.take l.length) _ hl HT h1 (by rw[List.length_take];unfold b5g at *;omega)) ?_;intro WD hb;replace HBC:=HBC.tr hb;clear hb;refine b0B (some 17) (.bool zb9) ?_;refine b0B (some 4) (.bool zb9) ?_;refine b0H ?_;refine b0E ?_;refine b0x ?_;refine b0d 4 (.bool zb9) ?_;exact⟨by rw[←hzb9];exact congrArg (fun b=>Ending.returned (.bool b)) (decide_eq_decide.2 ⟨fun h=>⟨hle,h.symm⟩,fun h=>h.2.symm⟩),HBC⟩
theorem c1G{l:List Ev}{j:Nat}:(b0i (l.take j)).length≤j:=by
 refine Nat.le_trans (b7u _) ?_;rw[List.length_take];omega
theorem b8Q(ps:List PF)(hp:Prog ps)(l:List Ev)(vp vl:Value)(w:World)(hs:Sl pfR w vp ps)(hl:Sl evR w vl l)(hlen:l.length≤4000) :
  Calls Try.prog 32 #[.agg #[vp],vl] w fun r w'=>∃b,r=.returned (.bool b)∧(b=true↔b2C ps l)∧Bel w w':=by
 obtain⟨Ap,cp,rfl,-⟩:=b0R hs;obtain⟨Al,cl,rfl,-⟩:=b0R hl;have HB1:Bel w (w.alloc (.cells #[.slice Ap ps.length cp] PGT)):=(Bel.rfl_ w).al _;have HP1:=Blk.new w PGT #[.slice Ap ps.length cp];have hsame:=b9l ps l;refine b1H (c:=_) (args:=[.agg #[.slice Ap ps.length cp],.slice Al l.length cl]) Try.func32 rfl Try.ntmps32 (by kernel_rfl) ?_;refine b0G ?_;refine b0D ?_;refine b1n (some 2) (.pointer (some ⟨w.heap.size,0,none⟩)) (w.alloc (.cells #[.slice Ap ps.length cp] PGT)) ?_;generalize w.alloc (.cells #[.slice Ap ps.length cp] PGT)=W1 at *;generalize w.heap.size=Q at *;have HBC:=HB1;have HBK:=Bel.rfl_ W1;have HO0:W1.ownsRow W1.heap.size INT 1 (.slice none 0 0) (b0i (l.take 0)).length ((b0i (l.take 0)).map (Value.int .i64)):=World.ownsRow_nil _ _ _ _;refine b0B (some 4) (.bool false) ?_;refine b0H ?_;refine b0E ?_;refine b0G ?_;refine b0D ?_;refine b0B (some 5) (.slice none 0 0) ?_;refine b0H ?_;refine b0E ?_;refine b0G ?_;refine b0D ?_;refine b0B (some 6) (.int .i64 0) ?_;refine b0H ?_;refine b0E ?_;refine b0G ?_;refine b0G ?_;refine b0D ?_;refine b0B (some 7) (.int .i64 0) ?_;refine b0H ?_;refine b0E ?_;refine b0e ?_;refine b1e (α:=Nat×Value) (fun j W=>j.1≤l.length∧W.ownsRow W1.heap.size INT 1 j.2 (b0i (l.take j.1)).length ((b0i (l.take j.1)).map (Value.int .i64))∧Bel w W∧Bel W1 W) (fun j=>[(1,.slice Al l.length cl),(2,.pointer (some ⟨Q,0,none⟩)),(5,j.2),(6,.int .i64 (b1M (l.take j.1):Nat)),(7,.int .i64 (j.1:Int))]) (fun j=>l.length-j.1) (0,.slice none 0 0) [1,2,5,6,7] (by kernel_rfl) ⟨Nat.zero_le _,HO0,HBC,HBK⟩ ?_;clear HBC HBK HO0;rintro⟨j,u⟩ WC ⟨hj,HO,HBC,HBK⟩;dsimp only at hj HO;have hvl:(b0i (l.take j)).length≤j:=c1G;have hsl:=b3i l j;refine b0G ?_;refine b0G ?_;refine b0D ?_;refine b0B (some 9) (.int .i64 (j:Int)) ?_;refine b0B (some 10) (.slice Al l.length cl) ?_;refine b0B (some 11) (.int .i64 l.length) ?_;obtain⟨zc1,hzc1⟩:∃b:Bool,decide (((j:Int):Int)<l.length)=b:=⟨_,rfl⟩;refine b0F (some 12) (.bool zc1) (b0u (k:=(j:Int)) (l:=l.length) hzc1) ?_;refine b0H ?_
 refine b0E ?_;cases zc1 with
 | true =>
  have hq:(decide (((j:Int):Int)<l.length))=true:=by rw[hzc1]
  simp only[sB] at hq;have hjl:j<l.length:=by omega
  obtain⟨e,hx⟩:∃e,l[j]? = some e:=⟨_,List.getElem?_eq_getElem hjl⟩;obtain⟨b,f,cs,rfl,HCS,hca⟩:=hl.elem hx;obtain rfl:cs=e.cells:=HCS;have k0:w.cell? ⟨b,f+j*6,none⟩=some (.int .i64 e.kind):=hca 0 _ rfl;have k5:w.cell? ⟨b,f+j*6+5,none⟩=some (.int .i64 e.value):=hca 5 _ rfl;have hss:=b5r hx;refine b0P ?_;refine b0X ?_;refine b0E ?_;refine b0G ?_;refine b0e ?_;refine b0G ?_;refine b0G ?_;refine b0D ?_;refine b0B (some 15) (.slice (some ⟨b,f,none⟩) l.length cl) ?_;refine b0B (some 16) (.int .i64 (j:Int)) ?_;refine b0F (some 17) (.pointer (some ⟨b,f+j*6,none⟩)) (b0t b4e b f l.length cl j hjl) ?_;refine b0B (some 18) (.pointer (some ⟨b,f+j*6,none⟩)) ?_;refine b0F (some 19) (.int .i64 e.kind) (b0I (Bel.cell HBC k0)) ?_;obtain⟨zc2,hzc2⟩:∃b:Bool,((e.kind:Int)==1)=b:=⟨_,rfl⟩;refine b0F (some 20) (.bool zc2) (b0b (k:=e.kind) (l:=1) hzc2) ?_;refine b0H ?_;refine b0E ?_;cases zc2 with
  | true =>
   have hq:(((e.kind:Int)==1))=true:=by rw[hzc2]
   simp only[sB] at hq;have hst:((b1M (l.take (j+1)):Nat):Int)=(b1M (l.take j):Nat)+1:=by rw[hss,if_pos hq];omega
   refine b0P ?_;refine b0D ?_;refine b0B (some 21) (.int .i64 (b1M (l.take j):Nat)) ?_;refine b0F (some 22) (.int .i64 ((b1M (l.take j):Nat)+1)) (b0U (k:=(b1M (l.take j):Nat)) (l:=1) (by omega) (by omega)) ?_;refine b0B (some 6) (.int .i64 ((b1M (l.take j):Nat)+1)) ?_;refine b0H ?_;refine b0E ?_;refine b0G ?_;refine b0D ?_;refine b0B (some 23) (.slice (some ⟨b,f,none⟩) l.length cl) ?_;refine b0B (some 24) (.int .i64 (j:Int)) ?_;refine b0F (some 25) (.pointer (some ⟨b,f+j*6,none⟩)) (b0t b4e b f l.length cl j hjl) ?_;refine b0B (some 26) (.pointer (some ⟨b,f+j*6,none⟩)) ?_;refine b0F (some 27) (.int .i64 e.kind) (b0I (Bel.cell HBC k0)) ?_;obtain⟨zc3,hzc3⟩:∃b:Bool,((e.kind:Int)==3)=b:=⟨_,rfl⟩;refine b0F (some 28) (.bool zc3) (b0b (k:=e.kind) (l:=3) hzc3) ?_;refine b0H ?_;refine b0E ?_;cases zc3 with
   | true =>
    have hq3:(((e.kind:Int)==3))=true:=by rw[hzc3]
    simp only[sB] at hq3;refine b0P ?_;refine b0D ?_;refine b0B (some 29) (u) ?_;refine b0B (some 30) (.slice (some ⟨b,f,none⟩) l.length cl) ?_;refine b0B (some 31) (.int .i64 (j:Int)) ?_;refine b0F (some 32) (.pointer (some ⟨b,f+j*6,none⟩)) (b0t b4e b f l.length cl j hjl) ?_;refine b0B (some 33) (.pointer (some ⟨b,f+j*6+5,none⟩)) ?_;refine b0F (some 34) (.int .i64 e.value) (b0I (Bel.cell HBC k5)) ?_;refine b1n (some 35) (.slice (some ⟨WC.heap.size,0,none⟩) 1 1) (WC.alloc (.cells #[.int .i64 e.value] INT)) ?_;refine b3z (some 36) WC (.tmp 29) (.tmp 35) 23 (by kernel_rfl) rfl rfl W1.heap.size elI u (b0i (l.take j)).length _ (by kernel_rfl) (by kernel_rfl) HO [.int .i64 e.value] (by kernel_rfl) (by kernel_rfl) rfl (by simp[Value.oneCell']) (by simp only[maxLen];omega) (by omega) HBK.size ?_;intro g6 cap6 w6 ho6 hg6 _;have HBK6:Bel W1 w6:=Below.grown HBK hg6 HBK.size (fun k hk=>(HO.lt k hk).1);have HBC6:Bel w w6:=HB1.tr HBK6;refine b0B (some 5) (.slice (some ⟨g6,0,none⟩) ((b0i (l.take j)).length+1) cap6) ?_;refine b0H ?_;refine b0Q ?_;refine b0E ?_;refine b0D ?_;refine b0B (some 13) (.int .i64 (j:Int)) ?_;refine b0F (some 14) (.int .i64 ((j:Int)+1)) (b0U (k:=(j:Int)) (l:=1) (by omega) (by omega)) ?_;refine b0B (some 7) (.int .i64 ((j:Int)+1)) ?_;refine b0H ?_;have HO2:w6.ownsRow W1.heap.size INT 1 (.slice (some ⟨g6,0,none⟩) ((b0i (l.take j)).length+1) cap6) (b0i (l.take (j+1))).length ((b0i (l.take (j+1))).map (Value.int .i64)):=by rw[b3v hx,if_pos (by omega),List.map_append,List.length_append];exact ho6
    refine b1Q (j+1,.slice (some ⟨g6,0,none⟩) ((b0i (l.take j)).length+1) cap6) [1,2,5,6,7] (by rw[hst];kernel_rfl) ⟨⟨by dsimp only;omega,HO2,HBC6,HBK6⟩,by dsimp only;omega⟩
   | false =>
    have hq3:(((e.kind:Int)==3))=false:=by rw[hzc3]
    simp only[sB] at hq3;refine b0K ?_;refine b0X ?_;refine b0Q ?_;refine b0E ?_;refine b0D ?_;refine b0B (some 13) (.int .i64 (j:Int)) ?_;refine b0F (some 14) (.int .i64 ((j:Int)+1)) (b0U (k:=(j:Int)) (l:=1) (by omega) (by omega)) ?_;refine b0B (some 7) (.int .i64 ((j:Int)+1)) ?_;refine b0H ?_;have HO2:WC.ownsRow W1.heap.size INT 1 u (b0i (l.take (j+1))).length ((b0i (l.take (j+1))).map (Value.int .i64)):=by rw[b3v hx,if_neg (by omega)];exact HO
    have HBC6:=HBC;have HBK6:=HBK;refine b1Q (j+1,u) [1,2,5,6,7] (by rw[hst];kernel_rfl) ⟨⟨by dsimp only;omega,HO2,HBC6,HBK6⟩,by dsimp only;omega⟩
  | false =>
   have hq:(((e.kind:Int)==1))=false:=by rw[hzc2]
   simp only[sB] at hq;have hst:((b1M (l.take (j+1)):Nat):Int)=(b1M (l.take j):Nat):=by rw[hss,if_neg hq];omega
   refine b0K ?_;refine b0X ?_;refine b0E ?_;refine b0G ?_;refine b0D ?_;refine b0B (some 23) (.slice (some ⟨b,f,none⟩) l.length cl) ?_;refine b0B (some 24) (.int .i64 (j:Int)) ?_;refine b0F (some 25) (.pointer (some ⟨b,f+j*6,none⟩)) (b0t b4e b f l.length cl j hjl) ?_;refine b0B (some 26) (.pointer (some ⟨b,f+j*6,none⟩)) ?_;refine b0F (some 27) (.int .i64 e.kind) (b0I (Bel.cell HBC k0)) ?_;obtain⟨zc4,hzc4⟩:∃b:Bool,((e.kind:Int)==3)=b:=⟨_,rfl⟩;refine b0F (some 28) (.bool zc4) (b0b (k:=e.kind) (l:=3) hzc4) ?_;refine b0H ?_;refine b0E ?_;cases zc4 with
   | true =>
    have hq3:(((e.kind:Int)==3))=true:=by rw[hzc4]
    simp only[sB] at hq3;refine b0P ?_;refine b0D ?_;refine b0B (some 29) (u) ?_;refine b0B (some 30) (.slice (some ⟨b,f,none⟩) l.length cl) ?_;refine b0B (some 31) (.int .i64 (j:Int)) ?_;refine b0F (some 32) (.pointer (some ⟨b,f+j*6,none⟩)) (b0t b4e b f l.length cl j hjl) ?_;refine b0B (some 33) (.pointer (some ⟨b,f+j*6+5,none⟩)) ?_;refine b0F (some 34) (.int .i64 e.value) (b0I (Bel.cell HBC k5)) ?_;refine b1n (some 35) (.slice (some ⟨WC.heap.size,0,none⟩) 1 1) (WC.alloc (.cells #[.int .i64 e.value] INT)) ?_;refine b3z (some 36) WC (.tmp 29) (.tmp 35) 23 (by kernel_rfl) rfl rfl W1.heap.size elI u (b0i (l.take j)).length _ (by kernel_rfl) (by kernel_rfl) HO [.int .i64 e.value] (by kernel_rfl) (by kernel_rfl) rfl (by simp[Value.oneCell']) (by simp only[maxLen];omega) (by omega) HBK.size ?_;intro g6 cap6 w6 ho6 hg6 _;have HBK6:Bel W1 w6:=Below.grown HBK hg6 HBK.size (fun k hk=>(HO.lt k hk).1);have HBC6:Bel w w6:=HB1.tr HBK6;refine b0B (some 5) (.slice (some ⟨g6,0,none⟩) ((b0i (l.take j)).length+1) cap6) ?_;refine b0H ?_;refine b0Q ?_;refine b0E ?_;refine b0D ?_;refine b0B (some 13) (.int .i64 (j:Int)) ?_;refine b0F (some 14) (.int .i64 ((j:Int)+1)) (b0U (k:=(j:Int)) (l:=1) (by omega) (by omega)) ?_;refine b0B (some 7) (.int .i64 ((j:Int)+1)) ?_;refine b0H ?_;have HO2:w6.ownsRow W1.heap.size INT 1 (.slice (some ⟨g6,0,none⟩) ((b0i (l.take j)).length+1) cap6) (b0i (l.take (j+1))).length ((b0i (l.take (j+1))).map (Value.int .i64)):=by rw[b3v hx,if_pos (by omega),List.map_append,List.length_append];exact ho6
    refine b1Q (j+1,.slice (some ⟨g6,0,none⟩) ((b0i (l.take j)).length+1) cap6) [1,2,5,6,7] (by rw[hst];kernel_rfl) ⟨⟨by dsimp only;omega,HO2,HBC6,HBK6⟩,by dsimp only;omega⟩
   | false =>
    have hq3:(((e.kind:Int)==3))=false:=by rw[hzc4]
    simp only[sB] at hq3;refine b0K ?_;refine b0X ?_;refine b0Q ?_;refine b0E ?_;refine b0D ?_;refine b0B (some 13) (.int .i64 (j:Int)) ?_;refine b0F (some 14) (.int .i64 ((j:Int)+1)) (b0U (k:=(j:Int)) (l:=1) (by omega) (by omega)) ?_;refine b0B (some 7) (.int .i64 ((j:Int)+1)) ?_;refine b0H ?_;have HO2:WC.ownsRow W1.heap.size INT 1 u (b0i (l.take (j+1))).length ((b0i (l.take (j+1))).map (Value.int .i64)):=by rw[b3v hx,if_neg (by omega)];exact HO
    have HBC6:=HBC;have HBK6:=HBK;refine b1Q (j+1,u) [1,2,5,6,7] (by rw[hst];kernel_rfl) ⟨⟨by dsimp only;omega,HO2,HBC6,HBK6⟩,by dsimp only;omega⟩
 | false =>
  have hq:(decide (((j:Int):Int)<l.length))=false:=by rw[hzc1]
  simp only[sB] at hq;obtain⟨X,hX⟩:∃X,b0i l=X:=⟨_,rfl⟩;have hjE:j=l.length:=by omega
  have hst:((b1M (l.take j):Nat):Int)=((b1M l:Nat):Int):=by rw[List.take_of_length_le (by omega)]
  rw[List.take_of_length_le (by omega),hX] at HO;refine b0K ?_;refine b1d ?_;refine b0T ?_;refine b0T ?_;refine b0h ?_;refine b0E ?_;refine b0G ?_;refine b0G ?_;have hXl:X.length≤4000:=by rw[←hX];have:=b7u l;omega
  obtain⟨AX,cX,rfl⟩:=b1i HO;have HBX:=Bel.rfl_ WC;have hF0:∀i x,i<0→X[i]? = some x→Num x∧(50≤i→x=0):=fun i x h=>by omega
  have HXS:Sl b2l WC (.slice AX X.length cX) X:=Sl.own_int HO rfl;refine b0D ?_;refine b0B (some 8) (.int .i64 0) ?_;refine b0H ?_;refine b0E ?_;refine b0e ?_;refine b1e (α:=Nat) (fun i W=>i≤X.length∧(∀k x,k<i→X[k]? = some x→Num x∧(50≤k→x=0))∧Bel WC W) (fun i=>[(1,.slice Al l.length cl),(2,.pointer (some ⟨Q,0,none⟩)),(5,.slice AX X.length cX),(6,.int .i64 (b1M l:Nat)),(8,.int .i64 (i:Int))]) (fun i=>X.length-i) 0 [1,2,5,6,8] (by rw[←hst];kernel_rfl) ⟨Nat.zero_le _,hF0,HBX⟩ ?_;clear hF0 HBX;rintro i WE ⟨hi,hFi,HBX⟩;have HOW:=HBX.own HO;refine b0G ?_;refine b0G ?_;refine b0D ?_;refine b0B (some 37) (.int .i64 (i:Int)) ?_;refine b0B (some 38) (.slice AX X.length cX) ?_;refine b0B (some 39) (.int .i64 X.length) ?_;obtain⟨zc5,hzc5⟩:∃b:Bool,decide (((i:Int):Int)<X.length)=b:=⟨_,rfl⟩;refine b0F (some 40) (.bool zc5) (b0u (k:=(i:Int)) (l:=X.length) hzc5) ?_;refine b0H ?_;refine b0E ?_;cases zc5 with
  | true =>
   have hq:(decide (((i:Int):Int)<X.length))=true:=by rw[hzc5]
   simp only[sB] at hq;have hil:i<X.length:=by omega
   obtain⟨x,hx⟩:∃x,X[i]? = some x:=⟨_,List.getElem?_eq_getElem hil⟩;obtain⟨gX,cX2,he,hxc⟩:=c0d HOW hx;injection he with e1 _ e3;subst e1 e3;obtain⟨zn0,hzn0⟩:∃b:Bool,decide (Num x)=b:=⟨_,rfl⟩;refine b0P ?_;refine b0X ?_;refine b0E ?_;refine b0G ?_;refine b0e ?_;refine b0G ?_;refine b0D ?_;refine b0B (some 43) (.slice (some ⟨gX,0,none⟩) X.length cX) ?_;refine b0B (some 44) (.int .i64 (i:Int)) ?_;refine b0F (some 45) (.pointer (some ⟨gX,i,none⟩)) (b3g elI gX X.length cX i rfl (by kernel_rfl) (by kernel_rfl) hil) ?_;refine b0F (some 46) (.int .i64 x) (b0I hxc) ?_;refine b1c (some 47) (.bool zn0) 49 #[.int .i64 x] (hzn0▸(b7c x WE).mono (fun r W h=>⟨h.1,h.2▸Bel.rfl_ _⟩)) ?_;intro WD hb;replace HBX:=HBX.tr hb;replace HOW:=hb.own HOW;replace hxc:=hb.cell hxc;clear hb;obtain⟨zr6,hzr6⟩:∃b:Bool,(!zn0)=b:=⟨_,rfl⟩;refine b0F (some 48) (.bool zr6) (by subst hzr6;kernel_rfl) ?_;refine b0B (some 49) (.bool zr6) ?_;obtain⟨zg7,hzg7⟩:∃b:Bool,b=(!zr6):=⟨_,rfl⟩;refine b0L (some 50) zg7 (.int .i64 (i:Int)) (by subst hzg7;cases zr6<;>kernel_rfl) (fun hG=>by subst hzg7;obtain rfl:zr6=false:=(by revert hG;cases zr6<;>simp);kernel_rfl) ?_;obtain⟨zc8,hzc8⟩:∃b:Bool,decide ((50:Int)≤(i:Int))=b:=⟨_,rfl⟩;refine b0L (some 51) zg7 (.bool zc8) (by subst hzg7;cases zr6<;>kernel_rfl) (fun hG=>by subst hzg7;obtain rfl:zr6=false:=(by revert hG;cases zr6<;>simp);exact b7A (k:=(i:Int)) (l:=50) rfl (by kernel_rfl) (by kernel_rfl) hzc8) ?_;refine b0L (some 52) zg7 (.bool zc8) (by subst hzg7;cases zr6<;>kernel_rfl) (fun hG=>by subst hzg7;obtain rfl:zr6=false:=(by revert hG;cases zr6<;>simp);kernel_rfl) ?_;obtain⟨zg9,hzg9⟩:∃b:Bool,b=(zg7 && zc8):=⟨_,rfl⟩;refine b0L (some 53) zg9 (.slice (some ⟨gX,0,none⟩) X.length cX) (by subst hzg9;cases zg7<;>cases zc8<;>kernel_rfl) (fun hG=>by subst hzg9;obtain⟨hq1,hq2⟩:zg7=true∧zc8=true:=(by revert hG;cases zg7<;>cases zc8<;>simp);subst hq2;subst hzg7;obtain rfl:zr6=false:=(by revert hq1;cases zr6<;>simp);kernel_rfl) ?_
   refine b0L (some 54) zg9 (.int .i64 (i:Int)) (by subst hzg9;cases zg7<;>cases zc8<;>kernel_rfl) (fun hG=>by subst hzg9;obtain⟨hq1,hq2⟩:zg7=true∧zc8=true:=(by revert hG;cases zg7<;>cases zc8<;>simp);subst hq2;subst hzg7;obtain rfl:zr6=false:=(by revert hq1;cases zr6<;>simp);kernel_rfl) ?_;refine b0L (some 55) zg9 (.pointer (some ⟨gX,i,none⟩)) (by subst hzg9;cases zg7<;>cases zc8<;>kernel_rfl) (fun hG=>by subst hzg9;obtain⟨hq1,hq2⟩:zg7=true∧zc8=true:=(by revert hG;cases zg7<;>cases zc8<;>simp);subst hq2;subst hzg7;obtain rfl:zr6=false:=(by revert hq1;cases zr6<;>simp);exact b3g elI gX X.length cX i rfl (by kernel_rfl) (by kernel_rfl) hil) ?_;refine b0L (some 56) zg9 (.int .i64 x) (by subst hzg9;cases zg7<;>cases zc8<;>kernel_rfl) (fun hG=>by subst hzg9;obtain⟨hq1,hq2⟩:zg7=true∧zc8=true:=(by revert hG;cases zg7<;>cases zc8<;>simp);subst hq2;subst hzg7;obtain rfl:zr6=false:=(by revert hq1;cases zr6<;>simp);exact b0I hxc) ?_;obtain⟨zc10,hzc10⟩:∃b:Bool,((x:Int) != 0)=b:=⟨_,rfl⟩;refine b0L (some 57) zg9 (.bool zc10) (by subst hzg9;cases zg7<;>cases zc8<;>kernel_rfl) (fun hG=>by subst hzg9;obtain⟨hq1,hq2⟩:zg7=true∧zc8=true:=(by revert hG;cases zg7<;>cases zc8<;>simp);subst hq2;subst hzg7;obtain rfl:zr6=false:=(by revert hq1;cases zr6<;>simp);exact b1a (k:=x) (l:=0) hzc10) ?_;obtain⟨zr11,hzr11⟩:∃b:Bool,(zc8 && zc10)=b:=⟨_,rfl⟩;refine b0L (some 58) zg7 (.bool zr11) (by subst hzg7;cases zr6<;>kernel_rfl) (fun hG=>by subst hzr11;cases zc8<;>(subst hzg7;obtain rfl:zr6=false:=(by revert hG;cases zr6<;>simp);subst hzg9;kernel_rfl)) ?_;obtain⟨zr12,hzr12⟩:∃b:Bool,(zr6 || zr11)=b:=⟨_,rfl⟩;refine b0F (some 59) (.bool zr12) (by subst hzr12;cases zr6<;>(subst hzg7;kernel_rfl)) ?_;refine b0H ?_;refine b0E ?_;cases zr12 with
   | true =>
    have hq:((!(decide (Num x))) || ((decide ((50:Int)≤(i:Int))) && (((x:Int) != 0))))=true:=by rw[hzn0,hzr6,hzc8,hzc10,hzr11,hzr12]
    simp only[sB] at hq
    have hno:¬b2C ps l:=fun h=>by
     obtain⟨hf,-⟩:=hsame.2 h;rw[hX] at hf;have:=hf i x hx;rcases hq with h | ⟨h1,h2⟩
     ·exact h this.1
     ·exact h2 (this.2 (by omega))
    refine b0P ?_;refine b0G ?_;refine b0D ?_;refine b0B (some 4) (.bool false) ?_;refine b0H ?_;refine b0E ?_;refine b0x ?_;refine b0Y ?_;refine b0N ?_;refine b0N ?_;refine b0Y ?_;refine b0N ?_;refine b0d 4 (.bool false) ?_;exact⟨_,rfl,noB hno,HB1.tr (HBK.tr HBX)⟩
   | false =>
    have hq:((!(decide (Num x))) || ((decide ((50:Int)≤(i:Int))) && (((x:Int) != 0))))=false:=by rw[hzn0,hzr6,hzc8,hzc10,hzr11,hzr12]
    simp only[sB] at hq
    have hF2:∀k x,k<i+1→X[k]? = some x→Num x∧(50≤k→x=0):=fun k y hk hy=>by
     by_cases hki:k=i
     ·subst hki;rw[hx] at hy;injection hy with hy;subst hy;refine⟨hq.1,fun h50=>?_⟩;rcases hq.2 with h | h
      ·omega
      ·exact h
     ·exact hFi k y (by omega) hy
    refine b0K ?_;refine b0X ?_;refine b0Q ?_;refine b0E ?_;refine b0D ?_;refine b0B (some 41) (.int .i64 (i:Int)) ?_;refine b0F (some 42) (.int .i64 ((i:Int)+1)) (b0U (k:=(i:Int)) (l:=1) (by omega) (by omega)) ?_;refine b0B (some 8) (.int .i64 ((i:Int)+1)) ?_;refine b0H ?_;refine b0V (i+1) [1,2,5,6,8] ⟨⟨by omega,hF2,HBX⟩,by omega⟩
  | false =>
   have hq:(decide (((i:Int):Int)<X.length))=false:=by rw[hzc5]
   simp only[sB] at hq;have hFX:b9F X:=fun k x hk=>hFi k x (by have:=(List.getElem?_eq_some_iff.1 hk).1;omega) hk;clear hFi;refine b0K ?_;refine b1d ?_;refine b0T ?_;refine b0T ?_;refine b0h ?_;refine b0E ?_;refine b0G ?_;refine b0G ?_;refine b0D ?_;refine b0B (some 60) (.slice AX X.length cX) ?_;refine b0B (some 61) (.int .i64 X.length) ?_;obtain⟨zc13,hzc13⟩:∃b:Bool,decide ((50:Int)<X.length)=b:=⟨_,rfl⟩;refine b0F (some 62) (.bool zc13) (b0Z (k:=X.length) (l:=50) hzc13) ?_;refine b0H ?_;refine b0E ?_;cases zc13 with
   | true =>
    have hq5:(decide ((50:Int)<X.length))=true:=by rw[hzc13]
    simp only[sB] at hq5;refine b0P ?_;refine b0D ?_;refine b0B (some 63) (.slice AX X.length cX) ?_;refine b0F (some 64) (.slice AX 50 cX) (c3S (A:=AX) (n:=X.length) (c:=cX) (j:=50) rfl (by kernel_rfl) (by kernel_rfl) (by omega) (by have:=(HXS.take_ (Nat.le_refl _)).2;omega)) ?_;refine b0B (some 5) (.slice AX 50 cX) ?_;refine b0H ?_;refine b0E ?_;refine b0G ?_;have HX5:Sl b2l WC (.slice AX 50 cX) (X.take 50):=(HXS.take_ (by omega)).1;have hnum:∀n∈X.take 50,Num n:=hFX.num;have hx50:(X.take 50).length≤50:=by rw[List.length_take];omega
    replace HBK:=HBK.tr HBX;replace HBC:=HB1.tr HBK;replace HX5:=HX5.keep HBX;obtain⟨T,hT⟩:∃T,b1M l=T:=⟨_,rfl⟩;have hT4:T≤4000:=by rw[←hT];have:=b3i l l.length;rw[List.take_length] at this;omega
    rw[hT];unfold b9r at hsame;rw[hX,hT] at hsame;refine b0D ?_;refine b0B (some 65) (.slice Al l.length cl) ?_;refine b0F (some 66) (.agg #[.slice Ap ps.length cp]) (b1b ((HP1.keep HBK).cell (i:=0) rfl)) ?_;refine b0B (some 67) (.slice AX 50 cX) ?_;refine b0a (some 68) 30 #[.agg #[.slice Ap ps.length cp],.slice AX 50 cX,.int .i64 500] (b3S hp (hs.keep HBC) HX5 hnum (by omega) (by omega) (by omega)) ?_;rintro r WF ⟨out1,u1,rfl,HS1,hran1,hb⟩;obtain⟨A1,c1,rfl,-⟩:=b0R HS1;replace HBC:=HBC.tr hb;replace HBK:=HBK.tr hb;replace HX5:=HX5.keep hb;clear hb;refine⟨_,rfl,?_⟩;have hol1:b5g out1.length:=by have:=hran1.len hp hnum (by omega);unfold b5g;omega
    obtain⟨zb19,hzb19⟩:∃b:Bool,decide (l.length≤out1.length∧out1.take l.length=l)=b:=⟨_,rfl⟩;refine b1c (some 69) (.bool zb19) 78 #[.slice Al l.length cl,.slice A1 out1.length c1] (hzb19▸b3J l out1 _ _ _ (hl.keep HBC) HS1 (by unfold b5g;omega) hol1) ?_;intro WD hb;replace HBC:=HBC.tr hb;replace HBK:=HBK.tr hb;replace HX5:=HX5.keep hb;clear hb;refine b0B (some 70) (.bool zb19) ?_;cases zb19
    ·skip
     have hq7:(decide (l.length≤out1.length∧out1.take l.length=l))=false:=by rw[hzb19]
     simp only[sB] at hq7;refine b0B (some 71) (.int .i64 (T:Int)) ?_;obtain⟨zc14,hzc14⟩:∃b:Bool,decide (((T:Int):Int)≤500)=b:=⟨_,rfl⟩;refine b0F (some 72) (.bool zc14) (b4l (k:=(T:Int)) (l:=500) rfl (by kernel_rfl) (by kernel_rfl) hzc14) ?_;refine b0B (some 73) (.bool zc14) ?_;cases zc14
     ·skip
      have hq8:(decide (((T:Int):Int)≤500))=false:=by rw[hzc14]
      simp only[sB] at hq8;refine b0J (some 74) ?_;refine b0J (some 75) ?_;refine b0J (some 76) ?_;refine b0J (some 77) ?_;refine b0J (some 78) ?_;refine b0J (some 79) ?_;refine b0B (some 80) (.bool false) ?_;refine b0B (some 81) (.bool false) ?_;refine b0B (some 4) (.bool false) ?_;refine b0H ?_;refine b0E ?_;refine b0x ?_;refine b0d 4 (.bool false) ?_
      exact⟨_,rfl,noB (fun h=>by
       rcases(hsame.2 h).2 with h | ⟨h5,-⟩
       ·exact b2U.not hran1 (fun hh=>hq7 hh) h
       ·omega),HBC⟩
     ·skip
      have hq8:(decide (((T:Int):Int)≤500))=true:=by rw[hzc14]
      simp only[sB] at hq8;refine b0B (some 74) (.slice Al l.length cl) ?_;refine b0F (some 75) (.agg #[.slice Ap ps.length cp]) (b1b ((HP1.keep HBK).cell (i:=0) rfl)) ?_;refine b0B (some 76) (.slice AX 50 cX) ?_;refine b0B (some 77) (.int .i64 (T:Int)) ?_;refine b0a (some 78) 30 #[.agg #[.slice Ap ps.length cp],.slice AX 50 cX,.int .i64 (T:Int)] (b3S hp (hs.keep HBC) HX5 hnum (by omega) (by omega) (by omega)) ?_;rintro r WF ⟨out2,u2,rfl,HS2,hran2,hb⟩;obtain⟨A2,c2,rfl,-⟩:=b0R HS2;replace HBC:=HBC.tr hb;replace HBK:=HBK.tr hb;replace HX5:=HX5.keep hb;clear hb;refine⟨_,rfl,?_⟩;have hol2:b5g out2.length:=by have:=hran2.len hp hnum (by omega);unfold b5g;omega
      obtain⟨zb29,hzb29⟩:∃b:Bool,decide (l.length≤out2.length∧out2.take l.length=l)=b:=⟨_,rfl⟩;refine b1c (some 79) (.bool zb29) 78 #[.slice Al l.length cl,.slice A2 out2.length c2] (hzb29▸b3J l out2 _ _ _ (hl.keep HBC) HS2 (by unfold b5g;omega) hol2) ?_;intro WD hb;replace HBC:=HBC.tr hb;replace HBK:=HBK.tr hb;replace HX5:=HX5.keep hb;clear hb;refine b0B (some 80) (.bool zb29) ?_;refine b0B (some 81) (.bool zb29) ?_;refine b0B (some 4) (.bool zb29) ?_;refine b0H ?_;refine b0E ?_;refine b0x ?_;refine b0d 4 (.bool zb29) ?_;refine⟨_,rfl,?_,HBC⟩;rw[←hzb29,←hsame];simp only[decide_eq_true_eq]
      constructor
      ·exact fun h=>⟨hFX,Or.inr ⟨by omega,out2,hran2,h.1,h.2⟩⟩
      ·rintro⟨-,h | ⟨-,o3,hr3,h3⟩⟩
       ·exact absurd h (b2U.not hran1 (fun hh=>hq7 hh))
       ·rw[hran2.same hr3];exact h3
    ·skip
     have hq7:(decide (l.length≤out1.length∧out1.take l.length=l))=true:=by rw[hzb19]
     simp only[sB] at hq7;refine b0J (some 71) ?_;refine b0J (some 72) ?_;refine b0J (some 73) ?_;refine b0J (some 74) ?_;refine b0J (some 75) ?_;refine b0J (some 76) ?_;refine b0J (some 77) ?_;refine b0J (some 78) ?_;refine b0J (some 79) ?_;refine b0J (some 80) ?_;refine b0B (some 81) (.bool true) ?_;refine b0B (some 4) (.bool true) ?_;refine b0H ?_;refine b0E ?_;refine b0x ?_;refine b0d 4 (.bool true) ?_;exact⟨_,rfl,c4i (hsame.1 ⟨hFX,Or.inl ⟨out1,hran1,hq7.1,hq7.2⟩⟩),HBC⟩
   | false =>
    have hq5:(decide ((50:Int)<X.length))=false:=by rw[hzc13]
    simp only[sB] at hq5;refine b0K ?_;refine b0X ?_;refine b0E ?_;refine b0G ?_;have HX5:Sl b2l WC (.slice AX X.length cX) (X.take 50):=by rw[List.take_of_length_le (by omega)];exact HXS
    have hnum:∀n∈X.take 50,Num n:=hFX.num;have hx50:(X.take 50).length≤50:=by rw[List.length_take];omega
    replace HBK:=HBK.tr HBX;replace HBC:=HB1.tr HBK;replace HX5:=HX5.keep HBX;obtain⟨T,hT⟩:∃T,b1M l=T:=⟨_,rfl⟩;have hT4:T≤4000:=by rw[←hT];have:=b3i l l.length;rw[List.take_length] at this;omega
    rw[hT];unfold b9r at hsame;rw[hX,hT] at hsame;refine b0D ?_;refine b0B (some 65) (.slice Al l.length cl) ?_;refine b0F (some 66) (.agg #[.slice Ap ps.length cp]) (b1b ((HP1.keep HBK).cell (i:=0) rfl)) ?_;refine b0B (some 67) (.slice AX X.length cX) ?_;refine b0a (some 68) 30 #[.agg #[.slice Ap ps.length cp],.slice AX X.length cX,.int .i64 500] (b3S hp (hs.keep HBC) HX5 hnum (by omega) (by omega) (by omega)) ?_;rintro r WF ⟨out1,u1,rfl,HS1,hran1,hb⟩;obtain⟨A1,c1,rfl,-⟩:=b0R HS1;replace HBC:=HBC.tr hb;replace HBK:=HBK.tr hb;replace HX5:=HX5.keep hb;clear hb;refine⟨_,rfl,?_⟩;have hol1:b5g out1.length:=by have:=hran1.len hp hnum (by omega);unfold b5g;omega
    obtain⟨zb19,hzb19⟩:∃b:Bool,decide (l.length≤out1.length∧out1.take l.length=l)=b:=⟨_,rfl⟩;refine b1c (some 69) (.bool zb19) 78 #[.slice Al l.length cl,.slice A1 out1.length c1] (hzb19▸b3J l out1 _ _ _ (hl.keep HBC) HS1 (by unfold b5g;omega) hol1) ?_;intro WD hb;replace HBC:=HBC.tr hb;replace HBK:=HBK.tr hb;replace HX5:=HX5.keep hb;clear hb;refine b0B (some 70) (.bool zb19) ?_;cases zb19
    ·skip
     have hq7:(decide (l.length≤out1.length∧out1.take l.length=l))=false:=by rw[hzb19]
     simp only[sB] at hq7;refine b0B (some 71) (.int .i64 (T:Int)) ?_;obtain⟨zc15,hzc15⟩:∃b:Bool,decide (((T:Int):Int)≤500)=b:=⟨_,rfl⟩;refine b0F (some 72) (.bool zc15) (b4l (k:=(T:Int)) (l:=500) rfl (by kernel_rfl) (by kernel_rfl) hzc15) ?_;refine b0B (some 73) (.bool zc15) ?_;cases zc15
     ·skip
      have hq8:(decide (((T:Int):Int)≤500))=false:=by rw[hzc15]
      simp only[sB] at hq8;refine b0J (some 74) ?_;refine b0J (some 75) ?_;refine b0J (some 76) ?_;refine b0J (some 77) ?_;refine b0J (some 78) ?_;refine b0J (some 79) ?_;refine b0B (some 80) (.bool false) ?_;refine b0B (some 81) (.bool false) ?_;refine b0B (some 4) (.bool false) ?_;refine b0H ?_;refine b0E ?_;refine b0x ?_;refine b0d 4 (.bool false) ?_
      exact⟨_,rfl,noB (fun h=>by
       rcases(hsame.2 h).2 with h | ⟨h5,-⟩
       ·exact b2U.not hran1 (fun hh=>hq7 hh) h
       ·omega),HBC⟩
     ·skip
      have hq8:(decide (((T:Int):Int)≤500))=true:=by rw[hzc15]
      simp only[sB] at hq8;refine b0B (some 74) (.slice Al l.length cl) ?_;refine b0F (some 75) (.agg #[.slice Ap ps.length cp]) (b1b ((HP1.keep HBK).cell (i:=0) rfl)) ?_;refine b0B (some 76) (.slice AX X.length cX) ?_;refine b0B (some 77) (.int .i64 (T:Int)) ?_;refine b0a (some 78) 30 #[.agg #[.slice Ap ps.length cp],.slice AX X.length cX,.int .i64 (T:Int)] (b3S hp (hs.keep HBC) HX5 hnum (by omega) (by omega) (by omega)) ?_;rintro r WF ⟨out2,u2,rfl,HS2,hran2,hb⟩;obtain⟨A2,c2,rfl,-⟩:=b0R HS2;replace HBC:=HBC.tr hb;replace HBK:=HBK.tr hb;replace HX5:=HX5.keep hb;clear hb;refine⟨_,rfl,?_⟩;have hol2:b5g out2.length:=by have:=hran2.len hp hnum (by omega);unfold b5g;omega
      obtain⟨zb29,hzb29⟩:∃b:Bool,decide (l.length≤out2.length∧out2.take l.length=l)=b:=⟨_,rfl⟩;refine b1c (some 79) (.bool zb29) 78 #[.slice Al l.length cl,.slice A2 out2.length c2] (hzb29▸b3J l out2 _ _ _ (hl.keep HBC) HS2 (by unfold b5g;omega) hol2) ?_;intro WD hb;replace HBC:=HBC.tr hb;replace HBK:=HBK.tr hb;replace HX5:=HX5.keep hb;clear hb;refine b0B (some 80) (.bool zb29) ?_;refine b0B (some 81) (.bool zb29) ?_;refine b0B (some 4) (.bool zb29) ?_;refine b0H ?_;refine b0E ?_;refine b0x ?_;refine b0d 4 (.bool zb29) ?_;refine⟨_,rfl,?_,HBC⟩;rw[←hzb29,←hsame];simp only[decide_eq_true_eq]
      constructor
      ·exact fun h=>⟨hFX,Or.inr ⟨by omega,out2,hran2,h.1,h.2⟩⟩
      ·rintro⟨-,h | ⟨-,o3,hr3,h3⟩⟩
       ·exact absurd h (b2U.not hran1 (fun hh=>hq7 hh))
       ·rw[hran2.same hr3];exact h3
    ·skip
     have hq7:(decide (l.length≤out1.length∧out1.take l.length=l))=true:=by rw[hzb19]
     simp only[sB] at hq7;refine b0J (some 71) ?_;refine b0J (some 72) ?_;refine b0J (some 73) ?_;refine b0J (some 74) ?_;refine b0J (some 75) ?_;refine b0J (some 76) ?_;refine b0J (some 77) ?_;refine b0J (some 78) ?_;refine b0J (some 79) ?_;refine b0J (some 80) ?_;refine b0B (some 81) (.bool true) ?_;refine b0B (some 4) (.bool true) ?_;refine b0H ?_;refine b0E ?_;refine b0x ?_;refine b0d 4 (.bool true) ?_;exact⟨_,rfl,c4i (hsame.1 ⟨hFX,Or.inl ⟨out1,hran1,hq7.1,hq7.2⟩⟩),HBC⟩
end Go.Proofs.Ytgkpplbomciehaa
