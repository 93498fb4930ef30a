/- The document's text of commands: walked. Each lemma states its own conditions. -/
import Derived.Test.YtmfjlcpjemccmaaGreatDoorSbk20
import Derived.Deep.RegionLaw
namespace Go.Proofs.YtmfjlcpjemccmaaGreatDoor
set_option maxRecDepth 20000
set_option maxHeartbeats 4000000
open Go.RowKit
theorem b8X:∀l:List ByteArray,2*l.length≤(b2Z l).size+2
 | []=>by simp
 | [x]=>by simp
 | x::y::l=>by
  have h:=b8X (y::l);rw[b2Z,ByteArray.size_append,ByteArray.size_append,List.length_cons];have e:(⟨#[44,32]⟩:ByteArray).size=2:=rfl;omega
theorem Sl.own_nm{w:World}{base:Nat}{e:TypeId}{v:Value}{n:Nat}{xs:List ByteArray}(h:w.ownsRow base e 1 v n (xs.map Value.string))(hn:n=xs.length)(hs:∀x∈xs,x.size≤maxLen):Sl nmR w v xs:=
 Sl.own (r:=nmR) h hn fun k x hx=>by
  have hl:k<xs.length:=(List.getElem?_eq_some_iff.1 hx).1;refine⟨?_,hs x (List.mem_of_getElem? hx)⟩;simp only[nmR,Nat.mul_one];rw[List.drop_eq_getElem_cons (by simpa using hl)];simp[(List.getElem?_eq_some_iff.1 hx).2]
theorem b5S(a b:List UInt8):(⟨(a++b).toArray⟩:ByteArray)=⟨a.toArray⟩++⟨b.toArray⟩:=by
 apply ByteArray.ext;simp
theorem b5u(l:List UInt8):(⟨l.toArray⟩:ByteArray).size=l.length:=rfl
def b2d(n:Nat):ByteArray:=⟨(Lib.repeatL [32,32] n).toArray⟩
theorem c3Z(n:Nat):b2d (n+1)=b2d n++b4S:=by
 unfold b2d;rw[Lib.repeatL_add,b5S];rfl
theorem b5Z(n:Nat):(b2d n).size=2*n:=by
 unfold b2d;rw[b5u,Lib.repeatL_length];simp;omega
def b2j:List ByteArray→ByteArray
 | []=>emp
 | x::xs=>x++b2j xs
theorem b9J(xs:List ByteArray):(⟨(Lib.join (xs.map (·.data.toList)) []).toArray⟩:ByteArray)=b2j xs:=by
 induction xs with
 | nil=>rfl
 | cons x xs ih =>
  rw[b2j,←ih,List.map_cons,Lib.join_cons];cases xs with
  | nil=>rw[List.map_nil,Lib.join_nil,b5S];rfl
  | cons y ys =>
   rw[List.map_cons,Lib.join_cons,b5S];unfold Lib.joinTail;simp
theorem b7o(xs:List ByteArray):(⟨(Lib.join (xs.map (·.data.toList)) [44,32]).toArray⟩:ByteArray)=b2Z xs:=by
 induction xs with
 | nil=>rfl
 | cons x xs ih =>
  rw[List.map_cons,Lib.join_cons];cases xs with
  | nil=>rw[b2Z,List.map_nil];unfold Lib.joinTail;simp
  | cons y ys =>
   rw[b2Z,←ih,List.map_cons,Lib.join_cons,b5S]
   congr 1
theorem c6r(n:Nat)(w:World)(hn:n≤100000):Calls Tryz.prog 134 #[.string ⟨#[32,32]⟩,.int .i64 n] w fun r w'=>r=.returned (.string (b2d n))∧Bel w w':=
 (Tryz.strings_Repeat ⟨#[32,32]⟩ n w (by omega) (by rw[show(⟨#[32,32]⟩:ByteArray).size=2 from rfl];omega)).mono fun _ _ h=>h
theorem c3c(xs:List ByteArray)(g:Nat)(w:World)(h:Blk w g 9 (xs.map Value.string).toArray)(hs:(b2j xs).size≤1000000)(hl:xs.length≤1000000) :
  Calls Tryz.prog 64 #[.slice (some ⟨g,0,none⟩) xs.length xs.length,.string ⟨#[]⟩] w fun r w'=>r=.returned (.string (b2j xs))∧Bel w w':=by
 refine(Tryz.strings_Join g 0 xs.length xs ⟨#[]⟩ w (fun j x hx=>?_) h.lt (by omega) (Nat.le_refl _) ?_).mono fun r w' hh=>⟨?_,hh.2⟩
 ·rw[Nat.zero_add];refine h.cell ?_;rw[List.getElem?_toArray,List.getElem?_map,hx];rfl
 ·rw[←b5u,show((⟨#[]⟩:ByteArray).data.toList)=[] from rfl,b9J];omega
 ·rw[hh.1,show((⟨#[]⟩:ByteArray).data.toList)=[] from rfl,b9J]
theorem b9V(xs:List ByteArray)(v:Value)(w:World)(h:Sl nmR w v xs)(hs:(b2Z xs).size≤1000000) :
  Calls Tryz.prog 64 #[v,.string ⟨#[44,32]⟩] w fun r w'=>r=.returned (.string (b2Z xs))∧Bel w w':=by
 have hsl:=h;obtain⟨A,c,rfl,hc,hm,-⟩:=h;rcases Nat.eq_zero_or_pos xs.length with h0 | h0
 ·obtain rfl:=List.eq_nil_of_length_eq_zero h0;refine(Tryz.strings_Join_none A c ⟨#[44,32]⟩ w).mono fun r w' hh=>⟨hh.1,?_⟩;rw[hh.2];exact Bel.rfl_ _
 ·obtain⟨b,o,rfl,hA⟩:=hsl.lies h0;obtain⟨hz,-⟩:=nmR.cell hA (List.getElem?_eq_getElem h0);refine(Tryz.strings_Join b o c xs ⟨#[44,32]⟩ w (fun j x hx=>(nmR.cell hA hx).1) (b4l hz) ?_ hc ?_).mono fun r w' hh=>⟨?_,hh.2⟩
  ·have:=hm.1;simp only[maxLen] at this;have:=b8X xs;omega
  ·rw[←b5u,show((⟨#[44,32]⟩:ByteArray).data.toList)=[44,32] from rfl,b7o];omega
  ·rw[hh.1,show((⟨#[44,32]⟩:ByteArray).data.toList)=[44,32] from rfl,b7o]
def Tab (w : World) : Prop := Lib.TabIs Tryz.prog w "internal/strconv.uint64pow10" .u64 Lib.pow10Tab
theorem Tab.keep{w w':World}(hb:Bel w w')(h:Tab w):Tab w':=by
 have hg : Tryz.prog.globalNamed "internal/strconv.uint64pow10" = some (Tryz.prog.globalNamed "internal/strconv.uint64pow10" |>.getD 0) := by kernel_rfl
 have h0:=h;unfold Tab Lib.TabIs at h;refine var?_below hb hg ?_ h;have hc:=Lib.TabIs.cell h0 hg 0 (by rw[Lib.pow10Tab_length];omega);exact b4l hc
theorem c1B(n:Int)(w:World)(hn:-9999999≤n∧n≤9999999)(ht:Tab w):Calls Tryz.prog 135 #[.int .i64 n] w fun r w'=>r=.returned (.string (b6a n))∧Bel w w':=
 (Tryz.strconv_Itoa n (by omega) (by omega) w ht).mono fun _ _ ⟨h1,k,os,h2⟩=>⟨h1,by rw[h2];exact Lib.below_grow _ w (Nat.le_refl _) k os⟩
theorem c7v(a n:Int)(s:ByteArray)(A:Option Addr)(m c:Nat)(w:World)(hn:-9999999≤n∧n≤9999999)(ht:Tab w) :
  Calls Tryz.prog 79 #[.agg #[.int .i64 1,.int .i64 a,.int .i64 n,.string s,.slice A m c]] w fun r w'=>r=.returned (.string (b6a n))∧Bel w w':=by
 have HD:=Hi_ (fun W (hb:Bel w W)=>c1B n W hn (ht.keep hb));have HQ:=Hi_ (Blk.new w 49 #[.int .i64 1,.int .i64 a,.int .i64 n,.string s,.slice A m c]);have HB:=Hi_ ((Bel.rfl_ w).al (.cells #[.int .i64 1,.int .i64 a,.int .i64 n,.string s,.slice A m c] 49));go_enter Tryz.func79,Tryz.ntmps79;go_upto_region 1 with fail;generalize w.alloc (.cells #[.int .i64 1,.int .i64 a,.int .i64 n,.string s,.slice A m c] 49)=W0 at *;generalize w.heap.size=G at *;have c0:=HQ.out.cell (i:=0) (v:=.int .i64 1) rfl;have c2:=HQ.out.cell (i:=2) (v:=.int .i64 n) rfl;go_wp2_with fail
 refine(HD.out _ HB.out).mono ?_;rintro r w1 ⟨rfl,hb⟩;go_wp2;go_ret;exact⟨rfl,HB.out.tr hb⟩
theorem c6w(a n:Int)(s:ByteArray)(A:Option Addr)(m c:Nat)(w:World) :
  Calls Tryz.prog 79 #[.agg #[.int .i64 2,.int .i64 a,.int .i64 n,.string s,.slice A m c]] w fun r w'=>r=.returned (.string s)∧Bel w w':=by
 go_enter Tryz.func79,Tryz.ntmps79;go_wp2;go_ret;exact⟨rfl,(Bel.rfl_ w).al _⟩
theorem c6v(a n:Int)(s T0:ByteArray)(b o c:Nat)(v00 v01 v02 v03 v04:Value)(w:World)(hx0:b0x w b o [v00,v01,v02,v03,v04])(hr0:∀W,Bel w W→Calls Tryz.prog 79 #[.agg #[v00,v01,v02,v03,v04]] W fun r w'=>r=.returned (.string T0)∧Bel W w')
  (hsz:(((s++⟨#[91]⟩)++T0)++⟨#[93]⟩:ByteArray).size≤100000) :
  Calls Tryz.prog 79 #[.agg #[.int .i64 3,.int .i64 a,.int .i64 n,.string s,.slice (some ⟨b,o,none⟩) 1 c]] w fun r w'=>r=.returned (.string (((s++⟨#[91]⟩)++T0)++⟨#[93]⟩))∧Bel w w':=by
 have HX0:=Hi_ hx0;have HC0:=Hi_ hr0;have HQ:=Hi_ (Blk.new w 49 #[.int .i64 3,.int .i64 a,.int .i64 n,.string s,.slice (some ⟨b,o,none⟩) 1 c]);have HB:=Hi_ ((Bel.rfl_ w).al (.cells #[.int .i64 3,.int .i64 a,.int .i64 n,.string s,.slice (some ⟨b,o,none⟩) 1 c] 49));clear hx0 hr0;go_enter Tryz.func79,Tryz.ntmps79;go_upto_region 1 with fail;generalize w.alloc (.cells #[.int .i64 3,.int .i64 a,.int .i64 n,.string s,.slice (some ⟨b,o,none⟩) 1 c] 49)=WB at *;generalize w.heap.size=G at *;have c0:=HQ.out.cell (i:=0) (v:=.int .i64 3) rfl;go_upto_region 7 with fail;clear c0;refine wp_region_held_drew (S:=fun W=>Bel WB W) (by kernel_rfl) ((Bel.rfl_ WB).dr) (fun hS=>?_);refine b0F (i:=0) (some 17) (.pointer (some ⟨G,3,none⟩)) rfl hS (fun _ _=>by kernel_rfl) ?_;refine b0F (i:=1) (some 18) (.string s) rfl hS (fun W hb=>b0c ((HQ.out.keep hb).cell (i:=3) rfl)) ?_;refine b0F (i:=2) (some 19) (.string (s++(⟨#[91]⟩:ByteArray))) rfl hS (fun W _=>b3f rfl (by kernel_rfl) (by kernel_rfl) (by simp only[ByteArray.size_append] at hsz ⊢;have e1:(⟨#[91]⟩:ByteArray).size=1:=rfl;have e2:(⟨#[93]⟩:ByteArray).size=1:=rfl;have e3:(⟨#[40]⟩:ByteArray).size=1:=rfl;have e4:(⟨#[41]⟩:ByteArray).size=1:=rfl;have e5:(⟨#[32]⟩:ByteArray).size=1:=rfl;omega)) ?_;refine b0F (i:=3) (some 20) (.pointer (some ⟨G,4,none⟩)) rfl hS (fun _ _=>by kernel_rfl) ?_;refine b0F (i:=4) (some 21) (.slice (some ⟨b,o,none⟩) 1 c) rfl hS (fun W hb=>b1N ((HQ.out.keep hb).cell (i:=4) rfl)) ?_;refine b0F (i:=5) (some 22) (.pointer (some ⟨b,o,none⟩)) rfl hS (fun W _=>by go_simp) ?_;refine b0F (i:=6) (some 23) _ rfl hS (fun W hb=>b0B 49 (.tmp 22) rfl b2R b o (by kernel_rfl) [v00,v01,v02,v03,v04] ((HX0.out.keep HB.out).keep hb) rfl (by kernel_rfl)) ?_;refine b0i (i:=7) (some 24) (by kernel_rfl) rfl rfl (by kernel_rfl) 79 #[.agg #[v00,v01,v02,v03,v04]] (by kernel_rfl) (HC0.out _ (HB.out.tr hS)) ?_;rintro e W' ⟨rfl,hb⟩;refine⟨_,rfl,hS.tr hb,fun hS=>?_⟩
 refine b0F (i:=8) (some 25) (.string ((s++(⟨#[91]⟩:ByteArray))++T0)) rfl hS (fun W _=>b3f rfl (by kernel_rfl) (by kernel_rfl) (by simp only[ByteArray.size_append] at hsz ⊢;have e1:(⟨#[91]⟩:ByteArray).size=1:=rfl;have e2:(⟨#[93]⟩:ByteArray).size=1:=rfl;have e3:(⟨#[40]⟩:ByteArray).size=1:=rfl;have e4:(⟨#[41]⟩:ByteArray).size=1:=rfl;have e5:(⟨#[32]⟩:ByteArray).size=1:=rfl;omega)) ?_;refine b0F (i:=9) (some 26) (.string (((s++(⟨#[91]⟩:ByteArray))++T0)++(⟨#[93]⟩:ByteArray))) rfl hS (fun W _=>b3f rfl (by kernel_rfl) (by kernel_rfl) (by simp only[ByteArray.size_append] at hsz ⊢;have e1:(⟨#[91]⟩:ByteArray).size=1:=rfl;have e2:(⟨#[93]⟩:ByteArray).size=1:=rfl;have e3:(⟨#[40]⟩:ByteArray).size=1:=rfl;have e4:(⟨#[41]⟩:ByteArray).size=1:=rfl;have e5:(⟨#[32]⟩:ByteArray).size=1:=rfl;omega)) ?_;refine b0F (i:=10) (some 2) (.string (((s++(⟨#[91]⟩:ByteArray))++T0)++(⟨#[93]⟩:ByteArray))) rfl hS (fun _ _=>by kernel_rfl) ?_;refine wpAnyH_done (by kernel_rfl) ?_ _;try simp only[Act.put,lA,lB,lC]
 go_wp2;go_ret;exact⟨rfl,HB.out.tr hS⟩
theorem c6x(i:Nat)(hi:i<7)(a n:Int)(s T0 T1:ByteArray)(b o c:Nat)(v00 v01 v02 v03 v04:Value)(v10 v11 v12 v13 v14:Value)(w:World)(hx0:b0x w b o [v00,v01,v02,v03,v04])(hx1:b0x w b (o+5) [v10,v11,v12,v13,v14])(hr0:∀W,Bel w W→Calls Tryz.prog 79 #[.agg #[v00,v01,v02,v03,v04]] W fun r w'=>r=.returned (.string T0)∧Bel W w')(hr1:∀W,Bel w W→Calls Tryz.prog 79 #[.agg #[v10,v11,v12,v13,v14]] W fun r w'=>r=.returned (.string T1)∧Bel W w')
  (hsz:((((((⟨#[40]⟩++T0)++⟨#[32]⟩)++opB i)++⟨#[32]⟩)++T1)++⟨#[41]⟩:ByteArray).size≤100000) :
  Calls Tryz.prog 79 #[.agg #[.int .i64 ((i:Int)+4),.int .i64 a,.int .i64 n,.string s,.slice (some ⟨b,o,none⟩) 2 c]] w fun r w'=>r=.returned (.string ((((((⟨#[40]⟩++T0)++⟨#[32]⟩)++opB i)++⟨#[32]⟩)++T1)++⟨#[41]⟩:ByteArray))∧Bel w w':=by
 have HX0:=Hi_ hx0;have HX1:=Hi_ hx1;have HC0:=Hi_ hr0;have HC1:=Hi_ hr1;have HQ:=Hi_ (Blk.new w 49 #[.int .i64 ((i:Int)+4),.int .i64 a,.int .i64 n,.string s,.slice (some ⟨b,o,none⟩) 2 c]);have HB:=Hi_ ((Bel.rfl_ w).al (.cells #[.int .i64 ((i:Int)+4),.int .i64 a,.int .i64 n,.string s,.slice (some ⟨b,o,none⟩) 2 c] 49));clear hx0 hr0 hx1 hr1;go_enter Tryz.func79,Tryz.ntmps79;go_upto_region 1 with fail;generalize w.alloc (.cells #[.int .i64 ((i:Int)+4),.int .i64 a,.int .i64 n,.string s,.slice (some ⟨b,o,none⟩) 2 c] 49)=WB at *;generalize w.heap.size=G at *;have d0:=HQ.out.cell (i:=0) (v:=.int .i64 ((i:Int)+4)) rfl;have d1:((i:Int)+4==1)=false:=by simp;omega
 have d2:((i:Int)+4==2)=false:=by simp;omega
 have d3:((i:Int)+4==3)=false:=by simp;omega
 go_upto_region 8 with fail;clear d0 d1 d2 d3;go_cut [3] from 27 to 32 (fun u wx=>u=.string (opB i)∧Hid (Bel WB wx))
 case first =>
  have hi7:i=0∨i=1∨i=2∨i=3∨i=4∨i=5∨i=6:=by omega
  clear hi HX0 HX1 HC0 HC1;rcases hi7 with rfl | rfl | rfl | rfl | rfl | rfl | rfl
  ·have c0:=HQ.out.cell (i:=0) (v:=.int .i64 4) rfl;have c0':=(HQ.out.keep ((Bel.rfl_ WB).al (.cells #[.string ⟨#[43]⟩,.string ⟨#[45]⟩,.string ⟨#[42]⟩,.string ⟨#[47]⟩,.string ⟨#[37]⟩,.string ⟨#[60]⟩,.string ⟨#[61,61]⟩] 9))).cell (i:=0) (v:=.int .i64 4) rfl;go_wp2;go_meet
   exact⟨rfl,Hi_ ((Bel.rfl_ WB).al _)⟩
  ·have c0:=HQ.out.cell (i:=0) (v:=.int .i64 5) rfl;have c0':=(HQ.out.keep ((Bel.rfl_ WB).al (.cells #[.string ⟨#[43]⟩,.string ⟨#[45]⟩,.string ⟨#[42]⟩,.string ⟨#[47]⟩,.string ⟨#[37]⟩,.string ⟨#[60]⟩,.string ⟨#[61,61]⟩] 9))).cell (i:=0) (v:=.int .i64 5) rfl;go_wp2;go_meet
   exact⟨rfl,Hi_ ((Bel.rfl_ WB).al _)⟩
  ·have c0:=HQ.out.cell (i:=0) (v:=.int .i64 6) rfl;have c0':=(HQ.out.keep ((Bel.rfl_ WB).al (.cells #[.string ⟨#[43]⟩,.string ⟨#[45]⟩,.string ⟨#[42]⟩,.string ⟨#[47]⟩,.string ⟨#[37]⟩,.string ⟨#[60]⟩,.string ⟨#[61,61]⟩] 9))).cell (i:=0) (v:=.int .i64 6) rfl;go_wp2;go_meet
   exact⟨rfl,Hi_ ((Bel.rfl_ WB).al _)⟩
  ·have c0:=HQ.out.cell (i:=0) (v:=.int .i64 7) rfl;have c0':=(HQ.out.keep ((Bel.rfl_ WB).al (.cells #[.string ⟨#[43]⟩,.string ⟨#[45]⟩,.string ⟨#[42]⟩,.string ⟨#[47]⟩,.string ⟨#[37]⟩,.string ⟨#[60]⟩,.string ⟨#[61,61]⟩] 9))).cell (i:=0) (v:=.int .i64 7) rfl;go_wp2;go_meet
   exact⟨rfl,Hi_ ((Bel.rfl_ WB).al _)⟩
  ·have c0:=HQ.out.cell (i:=0) (v:=.int .i64 8) rfl;have c0':=(HQ.out.keep ((Bel.rfl_ WB).al (.cells #[.string ⟨#[43]⟩,.string ⟨#[45]⟩,.string ⟨#[42]⟩,.string ⟨#[47]⟩,.string ⟨#[37]⟩,.string ⟨#[60]⟩,.string ⟨#[61,61]⟩] 9))).cell (i:=0) (v:=.int .i64 8) rfl;go_wp2;go_meet
   exact⟨rfl,Hi_ ((Bel.rfl_ WB).al _)⟩
  ·have c0:=HQ.out.cell (i:=0) (v:=.int .i64 9) rfl;have c0':=(HQ.out.keep ((Bel.rfl_ WB).al (.cells #[.string ⟨#[43]⟩,.string ⟨#[45]⟩,.string ⟨#[42]⟩,.string ⟨#[47]⟩,.string ⟨#[37]⟩,.string ⟨#[60]⟩,.string ⟨#[61,61]⟩] 9))).cell (i:=0) (v:=.int .i64 9) rfl;go_wp2;go_meet
   exact⟨rfl,Hi_ ((Bel.rfl_ WB).al _)⟩
  ·have c0:=HQ.out.cell (i:=0) (v:=.int .i64 10) rfl;have c0':=(HQ.out.keep ((Bel.rfl_ WB).al (.cells #[.string ⟨#[43]⟩,.string ⟨#[45]⟩,.string ⟨#[42]⟩,.string ⟨#[47]⟩,.string ⟨#[37]⟩,.string ⟨#[60]⟩,.string ⟨#[61,61]⟩] 9))).cell (i:=0) (v:=.int .i64 10) rfl;go_wp2;go_meet
   exact⟨rfl,Hi_ ((Bel.rfl_ WB).al _)⟩
 case rest =>
  obtain⟨rfl,HX⟩:=hcut;go_upto_region 9 with fail;refine wp_region_held_drew (S:=fun W=>Bel WB W) (by kernel_rfl) (HX.out.dr) (fun hS=>?_);refine b0F (i:=0) (some 33) (.pointer (some ⟨G,4,none⟩)) rfl hS (fun _ _=>by kernel_rfl) ?_;refine b0F (i:=1) (some 34) (.slice (some ⟨b,o,none⟩) 2 c) rfl hS (fun W hb=>b1N ((HQ.out.keep hb).cell (i:=4) rfl)) ?_;refine b0F (i:=2) (some 35) (.pointer (some ⟨b,o,none⟩)) rfl hS (fun W _=>by go_simp) ?_;refine b0F (i:=3) (some 36) _ rfl hS (fun W hb=>b0B 49 (.tmp 35) rfl b2R b o (by kernel_rfl) [v00,v01,v02,v03,v04] ((HX0.out.keep HB.out).keep hb) rfl (by kernel_rfl)) ?_;refine b0F (i:=7) (some 40) (.string (opB i)) rfl hS (fun _ _=>by kernel_rfl) ?_;refine b0F (i:=10) (some 43) (.pointer (some ⟨G,4,none⟩)) rfl hS (fun _ _=>by kernel_rfl) ?_;refine b0F (i:=11) (some 44) (.slice (some ⟨b,o,none⟩) 2 c) rfl hS (fun W hb=>b1N ((HQ.out.keep hb).cell (i:=4) rfl)) ?_;refine b0F (i:=12) (some 45) (.pointer (some ⟨b,o+5,none⟩)) rfl hS (fun W _=>by go_simp) ?_;refine b0F (i:=13) (some 46) _ rfl hS (fun W hb=>b0B 49 (.tmp 45) rfl b2R b (o+5) (by kernel_rfl) [v10,v11,v12,v13,v14] ((HX1.out.keep HB.out).keep hb) rfl (by kernel_rfl)) ?_;refine b0i (i:=4) (some 37) (by kernel_rfl) rfl rfl (by kernel_rfl) 79 #[.agg #[v00,v01,v02,v03,v04]] (by kernel_rfl) (HC0.out _ (HB.out.tr hS)) ?_;rintro e W' ⟨rfl,hb⟩;refine⟨_,rfl,hS.tr hb,fun hS=>?_⟩;refine b0F (i:=5) (some 38) (.string ((⟨#[40]⟩:ByteArray)++T0)) rfl hS (fun W _=>b3f rfl (by kernel_rfl) (by kernel_rfl) (by simp only[ByteArray.size_append] at hsz ⊢;have e0:=b3y i;have e1:(⟨#[91]⟩:ByteArray).size=1:=rfl;have e2:(⟨#[93]⟩:ByteArray).size=1:=rfl;have e3:(⟨#[40]⟩:ByteArray).size=1:=rfl;have e4:(⟨#[41]⟩:ByteArray).size=1:=rfl;have e5:(⟨#[32]⟩:ByteArray).size=1:=rfl;omega)) ?_
  refine b0F (i:=6) (some 39) (.string (((⟨#[40]⟩:ByteArray)++T0)++(⟨#[32]⟩:ByteArray))) rfl hS (fun W _=>b3f rfl (by kernel_rfl) (by kernel_rfl) (by simp only[ByteArray.size_append] at hsz ⊢;have e0:=b3y i;have e1:(⟨#[91]⟩:ByteArray).size=1:=rfl;have e2:(⟨#[93]⟩:ByteArray).size=1:=rfl;have e3:(⟨#[40]⟩:ByteArray).size=1:=rfl;have e4:(⟨#[41]⟩:ByteArray).size=1:=rfl;have e5:(⟨#[32]⟩:ByteArray).size=1:=rfl;omega)) ?_;refine b0F (i:=8) (some 41) (.string ((((⟨#[40]⟩:ByteArray)++T0)++(⟨#[32]⟩:ByteArray))++opB i)) rfl hS (fun W _=>b3f rfl (by kernel_rfl) (by kernel_rfl) (by simp only[ByteArray.size_append] at hsz ⊢;have e0:=b3y i;have e1:(⟨#[91]⟩:ByteArray).size=1:=rfl;have e2:(⟨#[93]⟩:ByteArray).size=1:=rfl;have e3:(⟨#[40]⟩:ByteArray).size=1:=rfl;have e4:(⟨#[41]⟩:ByteArray).size=1:=rfl;have e5:(⟨#[32]⟩:ByteArray).size=1:=rfl;omega)) ?_;refine b0F (i:=9) (some 42) (.string (((((⟨#[40]⟩:ByteArray)++T0)++(⟨#[32]⟩:ByteArray))++opB i)++(⟨#[32]⟩:ByteArray))) rfl hS (fun W _=>b3f rfl (by kernel_rfl) (by kernel_rfl) (by simp only[ByteArray.size_append] at hsz ⊢;have e0:=b3y i;have e1:(⟨#[91]⟩:ByteArray).size=1:=rfl;have e2:(⟨#[93]⟩:ByteArray).size=1:=rfl;have e3:(⟨#[40]⟩:ByteArray).size=1:=rfl;have e4:(⟨#[41]⟩:ByteArray).size=1:=rfl;have e5:(⟨#[32]⟩:ByteArray).size=1:=rfl;omega)) ?_;refine b0i (i:=14) (some 47) (by kernel_rfl) rfl rfl (by kernel_rfl) 79 #[.agg #[v10,v11,v12,v13,v14]] (by kernel_rfl) (HC1.out _ (HB.out.tr hS)) ?_;rintro e W' ⟨rfl,hb⟩;refine⟨_,rfl,hS.tr hb,fun hS=>?_⟩;refine b0F (i:=15) (some 48) (.string ((((((⟨#[40]⟩:ByteArray)++T0)++(⟨#[32]⟩:ByteArray))++opB i)++(⟨#[32]⟩:ByteArray))++T1)) rfl hS (fun W _=>b3f rfl (by kernel_rfl) (by kernel_rfl) (by simp only[ByteArray.size_append] at hsz ⊢;have e0:=b3y i;have e1:(⟨#[91]⟩:ByteArray).size=1:=rfl;have e2:(⟨#[93]⟩:ByteArray).size=1:=rfl;have e3:(⟨#[40]⟩:ByteArray).size=1:=rfl;have e4:(⟨#[41]⟩:ByteArray).size=1:=rfl;have e5:(⟨#[32]⟩:ByteArray).size=1:=rfl;omega)) ?_
  refine b0F (i:=16) (some 49) (.string (((((((⟨#[40]⟩:ByteArray)++T0)++(⟨#[32]⟩:ByteArray))++opB i)++(⟨#[32]⟩:ByteArray))++T1)++(⟨#[41]⟩:ByteArray))) rfl hS (fun W _=>b3f rfl (by kernel_rfl) (by kernel_rfl) (by simp only[ByteArray.size_append] at hsz ⊢;have e0:=b3y i;have e1:(⟨#[91]⟩:ByteArray).size=1:=rfl;have e2:(⟨#[93]⟩:ByteArray).size=1:=rfl;have e3:(⟨#[40]⟩:ByteArray).size=1:=rfl;have e4:(⟨#[41]⟩:ByteArray).size=1:=rfl;have e5:(⟨#[32]⟩:ByteArray).size=1:=rfl;omega)) ?_;refine b0F (i:=17) (some 2) (.string (((((((⟨#[40]⟩:ByteArray)++T0)++(⟨#[32]⟩:ByteArray))++opB i)++(⟨#[32]⟩:ByteArray))++T1)++(⟨#[41]⟩:ByteArray))) rfl hS (fun _ _=>by kernel_rfl) ?_;refine wpAnyH_done (by kernel_rfl) ?_ _;try simp only[Act.put,lA,lB,lC]
  go_wp2;go_ret;exact⟨rfl,HB.out.tr hS⟩
theorem b5k:∀(e:TE) (val:Value) (w:World),TEV w e val→Tab w→e.ok=true→e.text.size≤100000→Calls Tryz.prog 79 #[val] w fun r w'=>r=.returned (.string e.text)∧Bel w w':=
 TE.ind fun k a n s args ih val w h ht hok hs=>by
  obtain⟨v,rfl,-,hsl⟩:=h;obtain⟨A,c,rfl,-,-,hA⟩:=hsl;rw[TE.ok,b5c,Bool.and_eq_true,Bool.and_eq_true,Bool.and_eq_true,List.all_eq_true] at hok;obtain⟨⟨⟨o1,o2⟩,o3⟩,o4⟩:=hok;replace o1:=of_decide_eq_true o1;unfold b1p at o1;rw[TE.text,b6G] at hs ⊢;unfold c0Y at hs ⊢
  have hel:∀(j:Nat) (x:TE) (b o:Nat),args[j]? = some x→teR.At w b o x→x.text.size≤100000→∃v0 v1 v2 v3 v4,b0x w b o [v0,v1,v2,v3,v4]∧∀W,Bel w W→Calls Tryz.prog 79 #[.agg #[v0,v1,v2,v3,v4]] W fun r w'=>r=.returned (.string x.text)∧Bel W w':=fun j x b o hj hx hsz=>by
   obtain⟨cs,hR,hc⟩:=hx;have hm:=List.mem_of_getElem? hj;have ho:=o4 x hm;have hi:=ih x hm;obtain⟨xk,xa,xn,xs,xargs⟩:=x;obtain⟨v',rfl,h1,h2⟩:=TER.opened hR;exact⟨_,_,_,_,_,hc,fun W hb=>hi _ W ⟨v',rfl,h1,h2.keep hb⟩ (ht.keep hb) ho hsz⟩
  by_cases h1:k=1
  ·subst h1;rw[if_pos rfl] at o3 hs ⊢;exact c7v a n s A _ c w (of_decide_eq_true o3) ht
  rw[if_neg h1] at hs ⊢;by_cases h2:k=2
  ·subst h2;rw[if_pos rfl] at hs ⊢;exact c6w a n s A _ c w
  rw[if_neg h2] at hs ⊢;by_cases h3:k=3
  ·subst h3;rw[if_pos rfl] at hs ⊢;have hl:args.length=1:=by simp at o1;omega
   obtain⟨x,rfl⟩:∃x,args=[x]:=List.length_eq_one_iff.1 hl;obtain⟨b,o,rfl,hc⟩:=hA (by simp[TE.args]);simp only[List.map_cons,List.map_nil,List.getD_cons_zero] at hs ⊢;obtain⟨v0,v1,v2,v3,v4,e1,e2⟩:=hel 0 x b o rfl (by simpa using hc 0 x rfl) (by simp only[ByteArray.size_append] at hs;omega);exact c6v a n s x.text b o c v0 v1 v2 v3 v4 w e1 e2 hs
  rw[if_neg h3] at hs ⊢
  have hk:4≤k∧k≤10∧args.length=2:=by
   split at o1
   ·omega
   ·split at o1<;>omega
  obtain⟨k4,k10,hl⟩:=hk
  obtain⟨x,y,rfl⟩:∃x y,args=[x,y]:=by
   match args,hl with
   | [x,y],_=>exact⟨x,y,rfl⟩
  obtain⟨i,hi⟩:∃i:Nat,k=i+4:=⟨(k-4).toNat,by omega⟩;subst hi;have hi4:((i:Int)+4-4).toNat=i:=by omega
  obtain⟨b,o,rfl,hc⟩:=hA (by simp[TE.args]);rw[hi4] at hs ⊢;simp only[List.map_cons,List.map_nil,List.getD_cons_zero,List.getD_cons_succ] at hs ⊢;obtain⟨v0,v1,v2,v3,v4,e1,e2⟩:=hel 0 x b o rfl (by simpa using hc 0 x rfl) (by simp only[ByteArray.size_append] at hs;omega);obtain⟨u0,u1,u2,u3,u4,e3,e4⟩:=hel 1 y b (o+5) rfl (by simpa[teR] using hc 1 y rfl) (by simp only[ByteArray.size_append] at hs;omega);exact c6x i (by omega) a n s x.text y.text b o c v0 v1 v2 v3 v4 u0 u1 u2 u3 u4 w e1 e3 e2 e4 hs
mutual
def TE.same(f:Bool):TE→TE→Bool
 | .mk k a n s l,.mk k' a' n' s' l'=>decide (k=k') && (decide (n=n') && (decide (s=s') && ((!f || decide (a=a')) && b0q f l l')))
def b0q(f:Bool):List TE→List TE→Bool
 | [],[]=>true
 | x::xs,y::ys=>x.same f y && b0q f xs ys
 | _,_=>false
end
theorem TE.same_eq(f:Bool)(x y:TE):x.same f y=(decide (x.kind=y.kind) && (decide (x.n=y.n) && (decide (x.name=y.name) && ((!f || decide (x.at_=y.at_)) && b0q f x.args y.args)))):=by
 cases x;cases y;rw[TE.same];rfl
theorem b8A{f:Bool}:∀{xs ys:List TE},xs.length≠ys.length→b0q f xs ys=false
 | [],[],h=>absurd rfl h
 | [],y::ys,_=>by rw[b0q];all_goals (intros;first | contradiction | simp_all)
 | x::xs,[],_=>by rw[b0q];all_goals (intros;first | contradiction | simp_all)
 | x::xs,y::ys,h=>by
  rw[b0q,b8A (xs:=xs) (ys:=ys) (fun e=>h (by rw[List.length_cons,List.length_cons,e])),Bool.and_false]
theorem c0P{f:Bool}{xs ys:List TE}{k:Nat}{x y:TE}(hx:xs[k]? = some x)(hy:ys[k]? = some y):b0q f (xs.drop k) (ys.drop k)=(x.same f y && b0q f (xs.drop (k+1)) (ys.drop (k+1))):=by
 obtain⟨h1,rfl⟩:=List.getElem?_eq_some_iff.1 hx;obtain⟨h2,rfl⟩:=List.getElem?_eq_some_iff.1 hy;rw[List.drop_eq_getElem_cons h1,List.drop_eq_getElem_cons h2,b0q]
theorem c2N{f:Bool}{xs ys:List TE}{k:Nat}(h1:xs.length≤k)(h2:ys.length≤k):b0q f (xs.drop k) (ys.drop k)=true:=by
 rw[List.drop_eq_nil_of_le h1,List.drop_eq_nil_of_le h2,b0q]
mutual
def TC.same(f:Bool):TC→TC→Bool
 | .mk k a s t i e args thn els,.mk k' a' s' t' i' e' args' thn' els'=>decide (k=k') && ((!f || decide (a=a')) && (decide (s=s') && (decide (t=t') && (i.same f i' && (e.same f e' && (b0q f args args' && (b0w f thn thn' && b0w f els els')))))))
def b0w(f:Bool):List TC→List TC→Bool
 | [],[]=>true
 | x::xs,y::ys=>x.same f y && b0w f xs ys
 | _,_=>false
end
theorem TC.same_eq(f:Bool)(x y:TC):x.same f y=(decide (x.kind=y.kind) && ((!f || decide (x.at_=y.at_)) && (decide (x.name=y.name) && (decide (x.other=y.other) && (x.index.same f y.index && (x.expr.same f y.expr && (b0q f x.args y.args && (b0w f x.thn y.thn && b0w f x.els y.els)))))))):=by
 cases x;cases y;rw[TC.same];rfl
theorem b4t{f:Bool}:∀{xs ys:List TC},xs.length≠ys.length→b0w f xs ys=false
 | [],[],h=>absurd rfl h
 | [],y::ys,_=>by rw[b0w];all_goals (intros;first | contradiction | simp_all)
 | x::xs,[],_=>by rw[b0w];all_goals (intros;first | contradiction | simp_all)
 | x::xs,y::ys,h=>by
  rw[b0w,b4t (xs:=xs) (ys:=ys) (fun e=>h (by rw[List.length_cons,List.length_cons,e])),Bool.and_false]
theorem c0O{f:Bool}{xs ys:List TC}{k:Nat}{x y:TC}(hx:xs[k]? = some x)(hy:ys[k]? = some y):b0w f (xs.drop k) (ys.drop k)=(x.same f y && b0w f (xs.drop (k+1)) (ys.drop (k+1))):=by
 obtain⟨h1,rfl⟩:=List.getElem?_eq_some_iff.1 hx;obtain⟨h2,rfl⟩:=List.getElem?_eq_some_iff.1 hy;rw[List.drop_eq_getElem_cons h1,List.drop_eq_getElem_cons h2,b0w]
theorem c2M{f:Bool}{xs ys:List TC}{k:Nat}(h1:xs.length≤k)(h2:ys.length≤k):b0w f (xs.drop k) (ys.drop k)=true:=by
 rw[List.drop_eq_nil_of_le h1,List.drop_eq_nil_of_le h2,b0w]
theorem b8B{xs:List TE}(h:∀x∈xs,x.same false x=true):b0q false xs xs=true:=by
 induction xs with
 | nil=>rw[b0q]
 | cons x xs ih=>rw[b0q,h x (by simp),ih fun y hy=>h y (by simp[hy])];rfl
theorem TE.same_rfl:∀e:TE,e.same false e=true:=
 TE.ind fun k a n s args ih=>by
  rw[TE.same,b8B ih];simp
theorem b6A{xs:List TC}(h:∀x∈xs,x.same false x=true):b0w false xs xs=true:=by
 induction xs with
 | nil=>rw[b0w]
 | cons x xs ih=>rw[b0w,h x (by simp),ih fun y hy=>h y (by simp[hy])];rfl
theorem TC.same_rfl:∀x:TC,x.same false x=true:=by
 intro x;induction x using TC.ind with
 | h k a s t i e args thn els ih1 ih2 =>
  rw[TC.same,TE.same_rfl,TE.same_rfl,b8B fun x _=>TE.same_rfl x,b6A ih1,b6A ih2];simp
def TF.same(f:Bool)(x y:TF):Bool:=(!f || decide (x.at_=y.at_)) && (decide (x.name=y.name) && (decide (x.params=y.params) && (decide (x.vars=y.vars) && (b0w f x.cmds y.cmds && x.result.same f y.result))))
def b1X(f:Bool):List TF→List TF→Bool
 | [],[]=>true
 | x::xs,y::ys=>x.same f y && b1X f xs ys
 | _,_=>false
theorem TF.same_rfl(x:TF):x.same false x=true:=by
 unfold TF.same;rw[b6A fun x _=>TC.same_rfl x,TE.same_rfl];simp
theorem b8D:∀xs:List TF,b1X false xs xs=true
 | []=>rfl
 | x::xs=>by rw[b1X,TF.same_rfl,b8D xs];rfl
theorem b6C{f:Bool}:∀{xs ys:List TF},xs.length≠ys.length→b1X f xs ys=false
 | [],[],h=>absurd rfl h
 | [],y::ys,_=>rfl
 | x::xs,[],_=>rfl
 | x::xs,y::ys,h=>by
  rw[b1X,b6C (xs:=xs) (ys:=ys) (fun e=>h (by rw[List.length_cons,List.length_cons,e])),Bool.and_false]
theorem c0Q{f:Bool}{xs ys:List TF}{k:Nat}{x y:TF}(hx:xs[k]? = some x)(hy:ys[k]? = some y):b1X f (xs.drop k) (ys.drop k)=(x.same f y && b1X f (xs.drop (k+1)) (ys.drop (k+1))):=by
 obtain⟨h1,rfl⟩:=List.getElem?_eq_some_iff.1 hx;obtain⟨h2,rfl⟩:=List.getElem?_eq_some_iff.1 hy;rw[List.drop_eq_getElem_cons h1,List.drop_eq_getElem_cons h2,b1X]
theorem c2O{f:Bool}{xs ys:List TF}{k:Nat}(h1:xs.length≤k)(h2:ys.length≤k):b1X f (xs.drop k) (ys.drop k)=true:=by
 rw[List.drop_eq_nil_of_le h1,List.drop_eq_nil_of_le h2,b1X]
end Go.Proofs.YtmfjlcpjemccmaaGreatDoor
