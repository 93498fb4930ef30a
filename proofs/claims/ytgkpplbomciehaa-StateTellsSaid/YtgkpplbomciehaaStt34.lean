/- Runs, and what came in by a trace: walked. Each lemma states its own conditions. -/
import Derived.Test.YtgkpplbomciehaaStt32
namespace Go.Proofs.Ytgkpplbomciehaa
set_option maxRecDepth 20000
set_option maxHeartbeats 8000000
open Go.RowKit
theorem c4K:∃d,Try.prog.underlying 63=some d∧d.isRow=true:=b6b (by kernel_rfl)
theorem b8l(e:Ev):∀u∈e.cells,u.oneCell'=true:=by
 intro u hu;unfold Ev.cells at hu;simp at hu;rcases hu with rfl | rfl | rfl | rfl | rfl | rfl<;>rfl
section
variable {ops:Array Oper}{rest:List Oper}{o1 o2 o3:Oper}{a:Act}{w:World}{Q:Exit→Act→World→Prop}
theorem c0E(x y z:Operand)(hg1:o1.guard=none)(hg2:o2.guard=none)(hg3:o3.guard=none)
  (ho1:o1.op=.load 63 x) (ho2:o2.op=.alloc 63) (ho3:o3.op=.store 63 y z) (b o:Nat) (hx:a.eval x=.pointer (some ⟨b,o,none⟩)) (e:Ev) (hc:b1D w b o e.cells)
  (hy:((a.put o1.dst (.agg e.cells.toArray)).put o2.dst (.pointer (some ⟨w.heap.size,0,none⟩))).eval y=.pointer (some ⟨w.heap.size,0,none⟩))
  (hz:((a.put o1.dst (.agg e.cells.toArray)).put o2.dst (.pointer (some ⟨w.heap.size,0,none⟩))).eval z=.agg e.cells.toArray)
  (h:wpList Try.prog ops Q rest (((a.put o1.dst (.agg e.cells.toArray)).put o2.dst (.pointer (some ⟨w.heap.size,0,none⟩))).put o3.dst undef) (w.alloc (.cells e.cells.toArray 63))):wpList Try.prog ops Q (o1::o2::o3::rest) a w:=by
 obtain⟨d,hu,hd⟩:=c4K;exact b2p _ x y z hg1 hg2 hg3 ho1 ho2 ho3 b o hx _ hc b4e d hu hd rfl (b8l e) hy hz h
end
theorem Sl.event{w:World}{A:Option Addr}{n c:Nat}{l:List Ev}(h:Sl evR w (.slice A n c) l){k:Nat}{e:Ev}(hk:l[k]? = some e):∃b o,A=some ⟨b,o,none⟩∧b1D w b (o+k*6) e.cells:=by
 obtain⟨b,o,cs,h1,h2,h3⟩:=h.elem hk;obtain rfl:cs=e.cells:=h2;exact⟨b,o,h1,h3⟩
def b2A:List Ev→List Int→Option (List Int)
 | [],acc=>some acc
 | e::l,acc=>if e.kind≠3 then b2A l acc else if ¬Num e.value∨(acc.length=50∧e.value≠0) then none else b2A l (if acc.length<50 then acc++[e.value] else acc)
theorem b9K{l:List Ev}{j:Nat}{e:Ev}(h:l[j]? = some e)(acc:List Int):b2A (l.drop j) acc=if e.kind≠3 then b2A (l.drop (j+1)) acc else if ¬Num e.value∨(acc.length=50∧e.value≠0) then none else b2A (l.drop (j+1)) (if acc.length<50 then acc++[e.value] else acc):=by
 obtain⟨hl,rfl⟩:=List.getElem?_eq_some_iff.1 h;rw[List.drop_eq_getElem_cons hl,b2A]
theorem c0B{l:List Ev}{j:Nat}(h:l.length≤j)(acc:List Int):b2A (l.drop j) acc=some acc:=by rw[List.drop_eq_nil_of_le h,b2A]
def c2M(l:List Ev)(w:World)(r:Ending)(w':World):Prop:=
 Bel w w'∧((b2A l []=none∧r=.returned (.tuple #[.slice none 0 0,.bool false]))∨(∃inp u,b2A l []=some inp∧r=.returned (.tuple #[u,.bool true])∧w'.ownsRow w.heap.size INT 1 u inp.length (inp.map (Value.int .i64))))
theorem c1T(l:List Ev)(v:Value)(w:World)(h:Sl evR w v l):Calls Try.prog 124 #[v] w (c2M l w):=by
 have HSL:=Lib.hid h;obtain⟨A,c,rfl,hll⟩:=b0R h;have HC0:Hid (b2A (l.drop 0) []=b2A l []):=Lib.hid rfl;have HO0:Hid (w.ownsRow w.heap.size INT 1 (.slice none 0 0) 0 (([]:List Int).map (Value.int .i64))):=Lib.hid (World.ownsRow_nil _ _ _ _);have HB0:=Lib.hid (Bel.rfl_ w);unfold c2M;clear h;generalize b2A l []=T at *;go_enter Try.func124,Try.ntmps124;go_wp2;go_loopw [4,9] (fun v i wr=>∃(j:Nat) (acc:List Int),i=.int .i64 j∧j≤l.length∧acc.length≤50∧Hid (b2A (l.drop j) acc=T)∧Hid (wr.ownsRow w.heap.size INT 1 v acc.length (acc.map (Value.int .i64)))∧Hid (Bel w wr)) (fun _ i _=>l.length-(intOf i).toNat)
 case atStart=>exact⟨0,[],rfl,Nat.zero_le _,by simp,HC0,HO0,HB0⟩
 case round =>
  obtain⟨j,acc,rfl,hj,ha50,HC,HO,HB⟩:=hrel;obtain⟨WO,hWO⟩:∃W,W=wr:=⟨_,rfl⟩;subst hWO;clear HC0 HO0 HB0;by_cases hlt:j<l.length
  rotate_left
  ·have hdd:decide ((j:Int)<l.length)=false:=decide_eq_false (by omega);have HT:Hid (T=some acc):=Lib.hid (by rw[←HC.out,c0B (by omega)]);clear HC;go_wp2;go_ret2
   exact⟨HB.out,Or.inr ⟨acc,_,HT.out,rfl,HO.out⟩⟩
  have hdd:decide ((j:Int)<l.length)=true:=decide_eq_true (by omega);obtain⟨e,he⟩:∃e,l[j]? = some e:=⟨_,List.getElem?_eq_getElem hlt⟩;obtain⟨b,o,rfl,hea⟩:=HSL.out.event he;have HEA:=Lib.hid (hea.keep HB.out);have HT:Hid (T=if e.kind≠3 then b2A (l.drop (j+1)) acc else if ¬Num e.value∨(acc.length=50∧e.value≠0) then none else b2A (l.drop (j+1)) (if acc.length<50 then acc++[e.value] else acc)):=Lib.hid (by rw[←HC.out,b9K he]);have i0:(0:Int)≤j:=by omega
  have i1:(j:Int)<l.length:=by omega
  obtain⟨Al,cl,rfl⟩:=b3Q HO.out;clear hea he HC;go_upto_region 5 with(refine c0E (.tmp 11) (.tmp 6) (.tmp 12) rfl rfl rfl rfl rfl rfl b (o+j*6) (by exact rfl) e HEA.out (by exact rfl) (by exact rfl) ?_);have HB2:=Lib.hid (HB.out.al (.cells e.cells.toArray EVT));have HK:=Lib.hid (Blk.new WO EVT e.cells.toArray);have HO2:=Lib.hid (((Bel.rfl_ WO).al (.cells e.cells.toArray EVT)).own HO.out);generalize hW2:WO.alloc _=W2 at *;clear hW2 HO HB HEA;generalize WO.heap.size=K at *;have c0:=HK.out.cell (i:=0) (v:=.int .i64 e.kind) rfl;have c5:=HK.out.cell (i:=5) (v:=.int .i64 e.value) rfl;by_cases hk:e.kind=3
  rotate_left
  ·have d3:(e.kind != 3)=true:=by simpa using hk
   have HT2:Hid (b2A (l.drop (j+1)) acc=T):=Lib.hid (by rw[HT.out,if_pos hk]);clear HT hk c5;go_wp2;go_roundw
   case rel=>exact⟨j+1,acc,by go_num,by omega,ha50,HT2,HO2,HB2⟩
   case measure=>simp[intOf];omega
  have d3:(e.kind != 3)=false:=by rw[hk];rfl
  have HT2:Hid (T=if ¬Num e.value∨(acc.length=50∧e.value≠0) then none else b2A (l.drop (j+1)) (if acc.length<50 then acc++[e.value] else acc)):=Lib.hid (by rw[HT.out,if_neg (by simpa using hk)]);clear HT hk;have HNU:=Lib.hid (b9c e.value);by_cases hn:Num e.value
  rotate_left
  ·have HR:Hid (T=none):=Lib.hid (by rw[HT2.out,if_pos (Or.inl hn)]);have dn:decide (Num e.value)=false:=decide_eq_false hn;rw[dn] at HNU;clear HT2 hn dn;go_wp2_with fail
   refine(HNU.out _).mono ?_;rintro r w1 ⟨rfl,rfl⟩;go_wp2;go_ret2
   exact⟨HB2.out,Or.inl ⟨HR.out,rfl⟩⟩
  have dn:decide (Num e.value)=true:=decide_eq_true hn;rw[dn] at HNU
  have HT3:Hid (T=if acc.length=50∧e.value≠0 then none else b2A (l.drop (j+1)) (if acc.length<50 then acc++[e.value] else acc)):=Lib.hid (by
   rw[HT2.out];by_cases h1:acc.length=50∧e.value≠0
   ·rw[if_pos (Or.inr h1),if_pos h1]
   ·rw[if_neg (by rintro(h | h);exact h hn;exact h1 h),if_neg h1])
  clear HT2 hn dn;by_cases h5:acc.length=50
  ·have d5:((acc.length:Int)==50)=true:=by rw[h5];rfl
   have d6:decide ((acc.length:Int)<50)=false:=decide_eq_false (by omega);by_cases hz:e.value=0
   ·have dz:(e.value != 0)=false:=by rw[hz];rfl
    have HT4:Hid (b2A (l.drop (j+1)) acc=T):=Lib.hid (by rw[HT3.out,if_neg (fun h=>h.2 hz),if_neg (by omega)]);clear HT3 hz h5;go_wp2_with fail
    refine(HNU.out _).mono ?_;rintro r w1 ⟨rfl,rfl⟩;go_wp2;go_roundw
    case rel=>exact⟨j+1,acc,by go_num,by omega,ha50,HT4,HO2,HB2⟩
    case measure=>simp[intOf];omega
   ·have dz:(e.value != 0)=true:=by simpa using hz
    have HR:Hid (T=none):=Lib.hid (by rw[HT3.out,if_pos ⟨h5,hz⟩]);clear HT3 hz h5;go_wp2_with fail
    refine(HNU.out _).mono ?_;rintro r w1 ⟨rfl,rfl⟩;go_wp2;go_ret2
    exact⟨HB2.out,Or.inl ⟨HR.out,rfl⟩⟩
  have d5:((acc.length:Int)==50)=false:=by rw[beq_eq_false_iff_ne];omega
  have d6:decide ((acc.length:Int)<50)=true:=decide_eq_true (by omega);have HT4:Hid (b2A (l.drop (j+1)) (acc++[e.value])=T):=Lib.hid (by rw[HT3.out,if_neg (fun h=>h5 h.1),if_pos (by omega)]);clear HT3;go_wp2_with fail
  refine(HNU.out _).mono ?_;rintro r w1 ⟨rfl,rfl⟩;go_wp2_with (at_builtin;go_loud (refine b2R W2 rfl (.tmp 33) (.tmp 36) 23 rfl w.heap.size elI (.slice Al acc.length cl) acc.length _ rfl HO2.out [.int .i64 e.value] rfl rfl (by simp[Value.oneCell']) (by simp only[maxLen];omega) (by omega) HB2.out.size ?_);intro g2 cap w4 hown4 hg4 _;have HO4:=Lib.hid hown4;have HG4:=Lib.hid hg4;clear hown4 hg4)
  go_roundw
  case rel =>
   refine⟨j+1,acc++[e.value],by go_num,by omega,by rw[List.length_append,List.length_singleton];omega,HT4,Lib.hid ?_,Lib.hid (Below.grown HB2.out HG4.out HB2.out.size (fun k hk=>(HO2.out.lt k hk).1))⟩;rw[List.length_append,List.map_append];exact HO4.out
  case measure=>simp[intOf];omega
def b1M(l:List Ev):Nat:=l.countP fun e=>e.kind==1
theorem b5r{l:List Ev}{j:Nat}{e:Ev}(h:l[j]? = some e):b1M (l.take (j+1))=b1M (l.take j)+if e.kind=1 then 1 else 0:=by
 unfold b1M;rw[b0z h,List.countP_append];simp[List.countP_cons]
theorem b3i(l:List Ev)(j:Nat):b1M (l.take j)≤j:=by
 unfold b1M;refine Nat.le_trans List.countP_le_length ?_;rw[List.length_take];omega
def b2U(ps:List PF)(inp:List Int)(l:List Ev)(fuel:Int):Prop:=∃out,Ran ps inp fuel out∧l.length≤out.length∧out.take l.length=l
def b2C(ps:List PF)(l:List Ev):Prop:=∃inp,b2A l []=some inp∧b1M l≤500∧(b2U ps inp l 500∨b2U ps inp l (b1M l))
theorem b3a:∀{l:List Ev} {acc inp:List Int},b2A l acc=some inp→(∀n∈acc,Num n)→∀n∈inp,Num n
 | [],acc,inp,h,ha=>by
  rw[b2A] at h;injection h with h;subst h;exact ha
 | e::l,acc,inp,h,ha=>by
  rw[b2A] at h;split at h
  ·exact b3a h ha
  split at h
  ·cases h
  rename_i h1
  have hn:Num e.value:=by
   by_cases hh:Num e.value
   ·exact hh
   ·exact absurd (Or.inl hh) h1
  refine b3a h fun n hn2=>?_;split at hn2
  ·rcases List.mem_append.1 hn2 with h2 | h2
   ·exact ha n h2
   ·obtain rfl:=List.mem_singleton.1 h2;exact hn
  ·exact ha n hn2
theorem noB{P:Prop}(h:¬P):(false=true↔P):=⟨(fun h=>by cases h),fun p=>absurd p h⟩
theorem c4i{P:Prop}(h:P):(true=true↔P):=⟨fun _=>h,fun _=>rfl⟩
theorem b2U.not{ps:List PF}{inp:List Int}{l out:List Ev}{fuel:Int}(h:Ran ps inp fuel out)(hn:¬(l.length≤out.length∧out.take l.length=l)):¬b2U ps inp l fuel:=by
 rintro⟨out2,h1,h2⟩;rw[Ran.same h1 h] at h2;exact hn h2
theorem c3x(ps:List PF)(hp:Prog ps)(l:List Ev)(vp vl:Value)(w:World)(h:Sl pfR w vp ps)(hl:Sl evR w vl l)(hlen:l.length≤4000) :
  Calls Try.prog 77 #[.agg #[vp],vl] w fun r w'=>∃b,r=.returned (.bool b)∧(b=true↔b2C ps l)∧Bel w w':=by
 have HSL:=Lib.hid h;have HEV:=Lib.hid hl;have HPR:=Lib.hid hp;obtain⟨A,c,rfl,-⟩:=b0R h;obtain⟨Ae,ce,rfl,-⟩:=b0R hl;have HB1:Hid (Bel w (w.alloc (.cells #[.slice A ps.length c] PGT))):=Lib.hid ((Bel.rfl_ w).al _);have HP1:=Lib.hid (Blk.new w PGT #[.slice A ps.length c]);clear h hl hp;go_enter Try.func77,Try.ntmps77;go_wp2_with fail
 refine(c1T l _ _ (HEV.out.keep HB1.out)).mono ?_;rintro r w2 ⟨hb2,(⟨hn,rfl⟩ | ⟨inp,u,hi,rfl,hown⟩)⟩
 ·have HB2:=Lib.hid (HB1.out.tr hb2);have HR:Hid (¬b2C ps l):=Lib.hid (by rintro⟨inp,h1,-⟩;rw[hn] at h1;cases h1);clear hb2 hn;go_wp2;go_ret;exact⟨false,rfl,noB HR.out,HB2.out⟩
 have HB2:=Lib.hid (HB1.out.tr hb2);have HP2:=Lib.hid (HP1.out.keep hb2);have HCM:=Lib.hid hi;have HNI:Hid (∀n∈inp,Num n):=Lib.hid (b3a hi (fun n hn=>by simp at hn));have HU:Hid (Sl b2l w2 u inp):=Lib.hid (Sl.own_int hown rfl);clear hb2 hi hown HP1 HB1;generalize w.heap.size=Q at *;go_wp2;have HB0:=Lib.hid (Bel.rfl_ w2);go_loopw [7,22] (fun n i wr=>∃j:Nat,i=.int .i64 j∧n=.int .i64 (b1M (l.take j))∧j≤l.length∧Hid (Bel w2 wr)) (fun _ i _=>l.length-(intOf i).toNat)
 case atStart=>exact⟨0,rfl,rfl,Nat.zero_le _,HB0⟩
 case round =>
  obtain⟨j,rfl,rfl,hj,HB⟩:=hrel;obtain⟨WO,hWO⟩:∃W,W=wr:=⟨_,rfl⟩;subst hWO;clear HB0;by_cases hlt:j<l.length
  ·have hdd:decide ((j:Int)<l.length)=true:=decide_eq_true (by omega);obtain⟨e,he⟩:∃e,l[j]? = some e:=⟨_,List.getElem?_eq_getElem hlt⟩;obtain⟨b,o,rfl,hea⟩:=HEV.out.event he;have HEA:=Lib.hid (hea.keep (HB2.out.tr HB.out));have HSN:=Lib.hid (b5r he);have hsj:=b3i l j;have i0:(0:Int)≤j:=by omega
   have i1:(j:Int)<l.length:=by omega
   clear hea he;go_upto_region 8 with(refine c0E (.tmp 24) (.tmp 9) (.tmp 25) rfl rfl rfl rfl rfl rfl b (o+j*6) (by exact rfl) e HEA.out (by exact rfl) (by exact rfl) ?_);have HB3:=Lib.hid (HB.out.al (.cells e.cells.toArray EVT));have HK:=Lib.hid (Blk.new WO EVT e.cells.toArray);generalize hW2:WO.alloc _=W2 at *;clear hW2 HB HEA;generalize WO.heap.size=K at *;have c0:=HK.out.cell (i:=0) (v:=.int .i64 e.kind) rfl;by_cases hk:e.kind=1
   ·have d1:(e.kind==1)=true:=by rw[hk];rfl
    have HS2:Hid (b1M (l.take (j+1))=b1M (l.take j)+1):=Lib.hid (by rw[HSN.out,if_pos hk]);clear HSN hk;go_wp2;go_roundw
    case rel=>exact⟨j+1,by go_num,by rw[HS2.out];go_num,by omega,HB3⟩
    case measure=>simp[intOf];omega
   ·have d1:(e.kind==1)=false:=by rw[beq_eq_false_iff_ne];exact hk
    have HS2:Hid (b1M (l.take (j+1))=b1M (l.take j)):=Lib.hid (by rw[HSN.out,if_neg hk,Nat.add_zero]);clear HSN hk;go_wp2;go_roundw
    case rel=>exact⟨j+1,by go_num,by rw[HS2.out],by omega,HB3⟩
    case measure=>simp[intOf];omega
  have hdd:decide ((j:Int)<l.length)=false:=decide_eq_false (by omega);have hjl:j=l.length:=by omega
  subst hjl;rw[List.take_length];have HB3:=Lib.hid (HB2.out.tr HB.out);have HP3:=Lib.hid (HP2.out.keep HB.out);have HU3:=Lib.hid (HU.out.keep HB.out);have HST:Hid (b1M l≤4000):=Lib.hid (by have:=b3i l l.length;rw[List.take_length] at this;omega);clear HB HP2 HU HB2 hj hlt;by_cases h5:b1M l > 500
  ·have d5:decide ((b1M l:Int) > 500)=true:=decide_eq_true (by omega);have HR:Hid (¬b2C ps l):=Lib.hid (by rintro⟨inp,-,h1,-⟩;omega);clear h5;go_wp2;go_ret;exact⟨false,rfl,noB HR.out,HB3.out⟩
  have d5:decide ((b1M l:Int) > 500)=false:=decide_eq_false (by omega);have HS5:Hid (b1M l≤500):=Lib.hid (by omega)
  have HRT:Hid (b2C ps l↔(b2U ps inp l 500∨b2U ps inp l (b1M l))):=Lib.hid ⟨fun⟨i2,h1,h2,h3⟩=>by
   rw[HCM.out] at h1;injection h1 with h1;subst h1;exact h3,fun h=>⟨inp,HCM.out,HS5.out,h⟩⟩
  generalize b1M l=S at *;clear h5;go_wp2;have HB5:Hid (Bel w (WO.alloc (.cells #[.int .i64 500,.int .i64 S] INT))):=Lib.hid (HB3.out.al _);have HP5:=Lib.hid (HP3.out.keep ((Bel.rfl_ WO).al (.cells #[.int .i64 500,.int .i64 S] INT)));have HU5:=Lib.hid (HU3.out.keep ((Bel.rfl_ WO).al (.cells #[.int .i64 500,.int .i64 S] INT)));have HK5:=Lib.hid (Blk.new WO INT #[.int .i64 500,.int .i64 S]);clear HB3 HP3 HU3;generalize WO.alloc (.cells #[.int .i64 500,.int .i64 S] INT)=W5 at *;generalize WO.heap.size=KB at *;have HN0:Hid ((0<0→¬b2U ps inp l 500)∧(1<0→¬b2U ps inp l S)):=Lib.hid ⟨fun h=>by omega,fun h=>by omega⟩;have HB0:=Lib.hid (Bel.rfl_ W5);go_loopw [37] (fun i wr=>∃j:Nat,i=.int .i64 j∧j≤2∧Hid ((0<j→¬b2U ps inp l 500)∧(1<j→¬b2U ps inp l S))∧Hid (Bel W5 wr)) (fun i _=>2-(intOf i).toNat)
  case atStart=>exact⟨0,rfl,by omega,HN0,HB0⟩
  case round =>
   obtain⟨j,rfl,hj,HN,HB⟩:=hrel;obtain⟨WV,hWV⟩:∃W,W=wr:=⟨_,rfl⟩;subst hWV;clear HB0 HN0;by_cases hlt:j<2
   rotate_left
   ·have hdd:decide ((j:Int)<2)=false:=decide_eq_false (by omega);have HR:Hid (¬b2C ps l):=Lib.hid (by rw[HRT.out];rintro(h | h);exact HN.out.1 (by omega) h;exact HN.out.2 (by omega) h);have HBV:=Lib.hid (HB5.out.tr HB.out);clear HN hlt;go_wp2;go_ret;exact⟨false,rfl,noB HR.out,HBV.out⟩
   have hdd:decide ((j:Int)<2)=true:=decide_eq_true (by omega)
   have hf:∃f:Int,WV.cell? ⟨KB,j,none⟩=some (.int .i64 f)∧0≤f∧f≤10000∧(b2U ps inp l f→b2C ps l)∧(¬b2U ps inp l f→(0<j+1→¬b2U ps inp l 500)∧(1<j+1→¬b2U ps inp l S)):=by
    have hs:=HS5.out;rcases(show j=0∨j=1 by omega) with rfl | rfl
    ·exact⟨500,(HK5.out.keep HB.out).cell rfl,by omega,by omega,fun h=>HRT.out.2 (Or.inl h),fun h=>⟨fun _=>h,fun h=>by omega⟩⟩
    ·exact⟨S,(HK5.out.keep HB.out).cell rfl,by omega,by omega,fun h=>HRT.out.2 (Or.inr h),fun h=>⟨fun _=>HN.out.1 (by omega),fun _=>h⟩⟩
   obtain⟨f,hfc,hf0,hf1,hfy,hfn⟩:=hf;have HFY:=Lib.hid hfy;have HFN:=Lib.hid hfn;have HBV:=Lib.hid (HB5.out.tr HB.out);have c0:=(HP5.out.keep HB.out).cell (i:=0) rfl;have HRAW:=Lib.hid (c3H ps HPR.out inp HNI.out f hf0 hf1 _ _ WV (HSL.out.keep HBV.out) (HU5.out.keep HB.out));have i0:(0:Int)≤j:=by omega
   have i1:(j:Int)<2:=by omega
   clear hf0 hf1 hfy hfn HN;go_wp2_with fail
   refine HRAW.out.mono ?_;rintro r W6 ⟨u2,out,rfl,hran,hown,hb6⟩;obtain⟨Au,cu,rfl⟩:=b3Q hown;have HRN:=Lib.hid hran;have HOW:=Lib.hid (Sl.own_ev hown rfl);have HB6:=Lib.hid (HB.out.tr hb6);have HBW:=Lib.hid (HBV.out.tr hb6);clear hran hown hb6 hfc c0 HRAW HBV;by_cases hle:l.length≤out.length
   rotate_left
   ·have dl:decide ((l.length:Int)≤out.length)=false:=decide_eq_false (by omega);have dl2:decide (l.length≤out.length)=false:=decide_eq_false hle;have HN2:=Lib.hid (HFN.out (b2U.not HRN.out (fun h=>hle h.1)));clear hle;go_wp2;go_roundw
    case rel=>exact⟨j+1,by go_num,by omega,HN2,HB6⟩
    case measure=>simp[intOf];omega
   have dl:decide ((l.length:Int)≤out.length)=true:=decide_eq_true (by omega)
   have hcu:out.length≤cu:=by
    obtain⟨A',c',he,h1,-,-⟩:=HOW.out;injection he with _ _ he;subst he;exact h1
   have hcm:cu≤maxLen∧(Au=none→cu=0):=by
    obtain⟨A',c',he,-,h1,-⟩:=HOW.out;injection he with he0 _ he;subst he he0;exact h1
   have HTK:Hid (Sl evR W6 (.slice Au l.length cu) (out.take l.length)):=Lib.hid (by
    have h2:=Sl.cut (r:=evR) (w:=W6) (A:=Au) (A':=Au) (c:=cu) (C':=cu) (i:=0) (j:=l.length) (xs:=out) hcu hcm (fun hp=>by obtain⟨b2,o2,he,hA⟩:=HOW.out.lies hp;exact⟨b2,o2,he,hA⟩) hle (by cases Au with
     | none=>split<;>rfl
     | some p=>split<;>simp[Addr.add]) rfl
    rw[List.drop_zero,Nat.sub_zero] at h2;exact h2)
   have HEQ:=Lib.hid (b5W _ _ (out.take l.length) l W6 HTK.out (HEV.out.keep HBW.out) (by unfold b5g;rw[List.length_take];omega) (by unfold b5g;omega));have HLE:=Lib.hid hle;clear hcm;go_wp2_with fail
   refine HEQ.out.mono ?_;rintro r W7 ⟨rfl,hb7⟩;have HB7:=Lib.hid (HB6.out.tr hb7);have HBW7:=Lib.hid (HBW.out.tr hb7);clear hb7 HEQ HTK;by_cases ht:out.take l.length=l
   ·have dt:decide (out.take l.length=l)=true:=decide_eq_true ht;have HR:Hid (b2C ps l):=Lib.hid (HFY.out ⟨out,HRN.out,HLE.out,ht⟩);clear ht;go_wp2;go_ret;exact⟨true,rfl,c4i HR.out,HBW7.out⟩
   ·have dt:decide (out.take l.length=l)=false:=decide_eq_false ht;have HN2:=Lib.hid (HFN.out (b2U.not HRN.out (fun h=>ht h.2)));clear ht;go_wp2;go_roundw
    case rel=>exact⟨j+1,by go_num,by omega,HN2,HB7⟩
    case measure=>simp[intOf];omega
def b2E(ps:List PF)(l:List Ev):Int:=if b5X ps≠0 then b5X ps else if l.length > 4000 then 2 else 0
def b7z(ps:List PF)(l:List Ev)(w:World)(r:Ending)(w':World):Prop:=
 Bel w w'∧((b2E ps l≠0∧r=.returned (.tuple #[.bool false,.int .i64 (b2E ps l)]))∨(b2E ps l=0∧∃b,r=.returned (.tuple #[.bool b,.int .i64 0])∧(b=true↔b2C ps l)))
theorem c0h(ps:List PF)(l:List Ev)(vp vl:Value)(w:World)(h:Sl pfR w vp ps)(hl:Sl evR w vl l):Calls Try.prog 31 #[.agg #[vp],vl] w (b7z ps l w):=by
 have HSL:=Lib.hid h;have HEV:=Lib.hid hl;obtain⟨A,c,rfl,-⟩:=b0R h;obtain⟨Ae,ce,rfl,hll⟩:=b0R hl;have HB1:Hid (Bel w (w.alloc (.cells #[.slice A ps.length c] PGT))):=Lib.hid ((Bel.rfl_ w).al _);have HP1:=Lib.hid (Blk.new w PGT #[.slice A ps.length c]);have c0:=HP1.out.cell (i:=0) rfl;have HCK:=Lib.hid (fun W (hb:Bel w W)=>c0C ps _ W (HSL.out.keep hb));have HIS:=Lib.hid (fun W (hb:Bel w W) (h1:b5X ps=0) (h2:l.length≤4000)=>c3x ps (b6h h1) l _ _ W (HSL.out.keep hb) (HEV.out.keep hb) h2);have HRE:Hid (b2E ps l=if b5X ps≠0 then b5X ps else if l.length > 4000 then 2 else 0):=Lib.hid rfl;unfold b7z;clear h hl;generalize b2E ps l=RE at *;generalize b5X ps=PE at *;go_enter Try.func31,Try.ntmps31;go_wp2_with fail
 generalize hW1:w.alloc (.cells #[.slice A ps.length c] PGT)=W1 at *;clear hW1;generalize hQ:w.heap.size=Q at *;clear hQ;refine(HCK.out _ HB1.out).mono ?_;rintro r w2 ⟨rfl,hb2⟩;have HB2:=Lib.hid (HB1.out.tr hb2);have c2:=(HP1.out.keep hb2).cell (i:=0) rfl;clear hb2 c0;by_cases h0:PE=0
 ·subst h0;have HR:Hid (RE=if l.length > 4000 then 2 else 0):=Lib.hid (by rw[HRE.out,if_neg (by decide)]);by_cases h4:l.length > 4000
  ·have d4:decide ((l.length:Int) > 4000)=true:=decide_eq_true (by omega);have HR2:Hid (RE=2):=Lib.hid (by rw[HR.out,if_pos h4]);clear c2 h4;go_wp2;go_ret2
   exact⟨HB2.out,Or.inl ⟨by rw[HR2.out];decide,by rw[HR2.out];rfl⟩⟩
  have d4:decide ((l.length:Int) > 4000)=false:=decide_eq_false (by omega);have HR2:Hid (RE=0):=Lib.hid (by rw[HR.out,if_neg h4]);have HI:=Lib.hid (HIS.out w2 HB2.out (by first | rfl | trivial) (by omega));clear h4;go_wp2_with fail
  refine HI.out.mono ?_;rintro r w3 ⟨b,rfl,hbq,hb3⟩;have HBQ:=Lib.hid hbq;have HB3:=Lib.hid (HB2.out.tr hb3);clear hbq hb3 c2;go_wp2;go_ret2
  exact⟨HB3.out,Or.inr ⟨HR2.out,b,rfl,HBQ.out⟩⟩
 ·have d1:(PE != 0)=true:=by simpa using h0
  have HR:Hid (RE=PE):=Lib.hid (by rw[HRE.out,if_pos h0]);have HNE:=Lib.hid h0;clear c2 h0;go_wp2;go_ret2
  exact⟨HB2.out,Or.inl ⟨by rw[HR.out];exact HNE.out,by rw[HR.out];rfl⟩⟩
theorem Sl.row{α:Type}{r:Rep α}{w:World}{g:Nat}{t:TypeId}{cs:Array Value}(h:Blk w g t cs)(xs:List α)(hs:cs.size=xs.length*r.size)(hm:xs.length≤maxLen)
  (hR:∀k x,xs[k]? = some x→r.R w ((cs.toList.drop (k*r.size)).take r.size) x):Sl r w (.slice (some ⟨g,0,none⟩) xs.length xs.length) xs:=by
 refine Sl.own (base:=0) (e:=t) (cells:=cs.toList) ⟨by rw[Array.length_toList];exact hs,.inr ⟨g,xs.length,cs,rfl,Nat.zero_le _,h,Nat.le_refl _,hm,hs,?_⟩⟩ rfl hR;rw[List.take_of_length_le];rw[Array.length_toList];exact Nat.le_of_eq hs
def noE:PE:=.mk 0 0 []
def b1p:List PF:=[⟨0,[0],[.mk 4 0 0 noE noE [] [] [],.mk 5 0 0 noE (.mk 2 0 []) [] [] []],noE⟩]
theorem c2B{W:World}{b1 b2 b3:Nat}(h1:Blk W b1 INT #[.int .i64 0])(h2:Blk W b2 CMT (zQ2 (.int .i64 4) (.int .i64 5) (.int .i64 2)))
  (h3:Blk W b3 FNT #[.int .i64 0,.slice (some ⟨b1,0,none⟩) 1 1,.slice (some ⟨b2,0,none⟩) 2 2,.int .i64 0,.int .i64 0,.slice none 0 0]):Sl pfR W (.slice (some ⟨b3,0,none⟩) 1 1) b1p:=by
 have n1:Sl peR W (.slice none 0 0) []:=Sl.nil_ _ _;have n2:Sl pcR W (.slice none 0 0) []:=Sl.nil_ _ _;refine Sl.row h3 b1p rfl (by decide) fun k x hx=>?_;have hk:k=0:=by have:=(List.getElem?_eq_some_iff.1 hx).1;simp[b1p] at this;exact this
 subst hk;obtain rfl:=Option.some.inj hx;refine⟨.slice (some ⟨b1,0,none⟩) 1 1,.slice (some ⟨b2,0,none⟩) 2 2,.slice none 0 0,rfl,?_,?_,n1⟩
 ·exact Sl.row (r:=b2l) h1 [0] rfl (by decide) fun k x hx=>by
   have hk:k=0:=by have:=(List.getElem?_eq_some_iff.1 hx).1;simp at this;exact this
   subst hk;obtain rfl:=Option.some.inj hx;rfl
 ·refine Sl.row (r:=pcR) h2 [.mk 4 0 0 noE noE [] [] [],.mk 5 0 0 noE (.mk 2 0 []) [] [] []] rfl (by decide) fun k x hx=>?_;have hk:k=0∨k=1:=by have:=(List.getElem?_eq_some_iff.1 hx).1;simp at this;omega
  rcases hk with rfl | rfl
  ·obtain rfl:=Option.some.inj hx;exact PCR.shut (i:=noE) (e:=noE) n1 n1 n1 n2 n2
  ·obtain rfl:=Option.some.inj hx;exact PCR.shut (i:=noE) (e:=.mk 2 0 []) n1 n1 n1 n2 n2
theorem b5o(w:World):Calls Try.prog 58 #[] w fun r w'=>∃v,r=.returned (.agg #[v])∧Sl pfR w' v b1p∧Bel w w':=by
 go_enter Try.func58,Try.ntmps58;go_wp2;generalize hW0:w.alloc (.cells #[.slice (some ⟨w.heap.size+1+1+1,0,none⟩) 1 1] PGT)=W0 at *;have k0:Blk W0 w.heap.size PGT #[.slice (some ⟨w.heap.size+1+1+1,0,none⟩) 1 1]:=by rw[←hW0];exact Blk.new _ _ _
 have s0:W0.heap.size=w.heap.size+1:=by rw[←hW0];exact b1r _ _
 have b0:Bel w W0:=by rw[←hW0];exact(Bel.rfl_ w).al _
 generalize hW1:W0.alloc (.cells #[.int .i64 0] INT)=W1 at *;have k1:Blk W1 (w.heap.size+1) INT #[.int .i64 0]:=by rw[←hW1,←s0];exact Blk.new _ _ _
 have s1:W1.heap.size=w.heap.size+1+1:=by rw[←hW1,b1r,s0]
 have b1:Bel W0 W1:=by rw[←hW1];exact(Bel.rfl_ W0).al _
 generalize hW2:W1.alloc (.cells (zQ2 (.int .i64 4) (.int .i64 5) (.int .i64 2)) CMT)=W2 at *;have k2:Blk W2 (w.heap.size+1+1) CMT (zQ2 (.int .i64 4) (.int .i64 5) (.int .i64 2)):=by rw[←hW2,←s1];exact Blk.new _ _ _
 have s2:W2.heap.size=w.heap.size+1+1+1:=by rw[←hW2,b1r,s1]
 have b2:Bel W1 W2:=by rw[←hW2];exact(Bel.rfl_ W1).al _
 generalize hW3:W2.alloc (.cells #[.int .i64 0,.slice (some ⟨w.heap.size+1,0,none⟩) 1 1,.slice (some ⟨w.heap.size+1+1,0,none⟩) 2 2,.int .i64 0,.int .i64 0,.slice none 0 0] FNT)=W3 at *;have k3:Blk W3 (w.heap.size+1+1+1) FNT #[.int .i64 0,.slice (some ⟨w.heap.size+1,0,none⟩) 1 1,.slice (some ⟨w.heap.size+1+1,0,none⟩) 2 2,.int .i64 0,.int .i64 0,.slice none 0 0]:=by rw[←hW3,←s2];exact Blk.new _ _ _
 have b3:Bel W2 W3:=by rw[←hW3];exact(Bel.rfl_ W2).al _
 have hsl:=c2B (k1.keep (b2.tr b3)) (k2.keep b3) k3;have k0':=k0.keep (b1.tr (b2.tr b3));have hbel:=b0.tr (b1.tr (b2.tr b3));generalize w.heap.size=Q at *;exact bodyPost_ret (v:=.agg #[.slice (some ⟨Q+1+1+1,0,none⟩) 1 1]) (by have c0:=k0'.cell (i:=0) rfl;simp[results,c0,go_sem]) rfl ⟨_,rfl,hsl,hbel⟩
def b3I:List Ev:=[⟨1,0,0,0,0,0⟩,⟨3,0,0,0,0,7⟩,⟨2,0,0,0,0,7⟩,⟨1,0,1,0,0,0⟩,⟨4,0,1,0,0,7⟩,⟨7,0,-1,0,0,0⟩]
theorem b3B(w:World):Calls Try.prog 72 #[] w fun r w'=>∃u,r=.returned u∧w'.ownsRow w.heap.size EVT 6 u b3I.length (evC b3I)∧Bel w w':=by
 go_enter Try.func72,Try.ntmps72;go_wp2;go_ret;refine⟨_,rfl,⟨rfl,.inr ⟨_,6,_,rfl,Nat.le_refl _,Blk.new w EVT _,Nat.le_refl _,by decide,rfl,rfl⟩⟩,(Bel.rfl_ w).al _⟩
end Go.Proofs.Ytgkpplbomciehaa
