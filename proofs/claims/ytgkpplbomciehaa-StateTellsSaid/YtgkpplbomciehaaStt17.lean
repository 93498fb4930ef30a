/- A number comes in: walked. Each lemma states its own conditions. -/
import Derived.Test.YtgkpplbomciehaaStt16
namespace Go.Proofs.Ytgkpplbomciehaa
set_option maxRecDepth 20000
set_option maxHeartbeats 8000000
open Go.RowKit
abbrev CMT:TypeId:=120
def See(fb q:Nat)(num at_ var:Int)(W:World):Prop:=W.cell? ⟨fb,0,none⟩=some (.int .i64 num)∧W.cell? ⟨fb,1,none⟩=some (.int .i64 at_)∧W.cell? ⟨q,1,none⟩=some (.int .i64 var)
theorem FrM.see{w:World}{lo fb:Nat}{num at_:Int}{vs:List (List Int)}(h:FrM w lo fb num at_ vs){q:Nat}{cs:Array Value}(hq:Blk w q CMT cs){var:Int}(hc:cs[1]? = some (.int .i64 var)):See fb q num at_ var w:=by
 obtain⟨-,v,hB,-⟩:=h;exact⟨hB.cell rfl,hB.cell rfl,hq.cell hc⟩
theorem RnM.inl{w0 w:World}{ps:List PF}{fuel:Int}{fs:FS}{L r:Nat}{inp:List Int}{steps made deep:Int}{out:List Ev}(h:RnM w0 ps fuel fs L r w inp steps made deep out):∃A c,w.cell? ⟨r,1,none⟩=some (.slice A inp.length c)∧w.frozen? ⟨r,1,none⟩=false∧Sl b2l w0 (.slice A inp.length c) inp:=by
 obtain⟨-,-,-,vp,vin,vf,ve,hB,-,hin,-⟩:=h;obtain⟨A,c,rfl,-⟩:=id hin;exact⟨A,c,hB.cell rfl,hB.frozen 1,hin⟩
section
variable {w0 w:World}{ps:List PF}{fuel:Int}{fs:FS}{L r lo fb:Nat}{inp:List Int}{steps made deep num at_:Int}{out:List Ev}{vs:List (List Int)}
theorem c1x{hd:Int}{tl:List Int}(hin:(inp=[]∧hd=0∧tl=[])∨inp=hd::tl)(hR:RnM w0 ps fuel fs L r w inp steps made deep out)(hl:out.length≤99990)(hF:FrM w lo fb num at_ vs)(hlo:L≤lo){x:PC}{val:Value}(hx:PCV w x val){l:List Int}(hv0:0≤x.var)(hvl:vs[x.var.toNat]? = some l)(hi:0<l.length) :
  Calls Try.prog 160 #[.pointer (some ⟨r,0,none⟩),.pointer (some ⟨fb,0,none⟩),val] w fun y w'=>y=.returned (.tuple #[])∧RnM w0 ps fuel fs L r w' tl steps made deep (out++[⟨3,num,at_,0,0,hd⟩]++[⟨2,num,at_,x.var,0,hd⟩])∧FrM w' lo fb num at_ (b2c vs x.var 0 (hd))∧Stays w0.heap.size lo w w':=by
 have HFLO:=Lib.hid hF.1
 have hm:inp.length≤9223372036854775807:=by
  obtain⟨A,c,-,-,A',c',he,h1,h2,-⟩:=hR.inl;have:=h2.1;simp only[maxLen] at this;omega
 have HLF:=Lib.hid (Nat.lt_of_le_of_lt hF.1 (by obtain⟨-,v,hB,-⟩:=id hF;exact hB.lt));obtain⟨cs,hcs,rfl⟩:=hx;obtain⟨vi,ve,va,vt,vz,rfl,-⟩:=b1Z hcs;generalize hq:[Value.int .i64 x.kind,.int .i64 x.var,.int .i64 x.fn,.int .i64 x.index.kind,.int .i64 x.index.n,vi,.int .i64 x.expr.kind,.int .i64 x.expr.n,ve,va,vt,vz]=cs at *;have hq1:cs.toArray[1]? = some (.int .i64 x.var):=by rw[←hq];rfl
 have HQ1:=Lib.hid hq1;clear hq hcs;have HB1:Hid (Bel w (w.alloc (.cells cs.toArray CMT))):=Lib.hid ((Bel.rfl_ w).al _);have HX1:=Lib.hid (Blk.new w CMT cs.toArray);have HR1:=Lib.hid (hR.keep HB1.out);have HF1:=Lib.hid (hF.keep HB1.out);have HK1:=Lib.hid (Stays.bel (lo:=lo) HB1.out hR.bel.size);have HL:Hid (out.length≤100000):=Lib.hid (by omega);have HL2:Hid ((out++[(⟨3,num,at_,0,0,hd⟩:Ev)]).length≤100000):=Lib.hid (by rw[List.length_append,List.length_singleton];omega);have HWV:=Lib.hid (fun(W:World) (o:List Ev) (i2:List Int) (n:Int) (h1:RnM w0 ps fuel fs L r W i2 steps made deep o) (h2:o.length≤100000) (h3:FrM W lo fb num at_ vs)=>b3k h1 h2 h3 hlo hv0 hvl (i:=0) (by decide) (by simpa using hi) at_ n);clear hR hF hl hv0 hvl hi hq1;generalize hxv:x.var=xv at *;clear hxv;go_enter Try.func160,Try.ntmps160;go_upto_region 1 with fail;generalize hW1:w.alloc (.cells cs.toArray CMT)=W1 at *;clear hW1;obtain⟨A,c,hc1,hcf,hsl⟩:=HR1.out.inl;have HSL:=Lib.hid hsl;clear hsl;rcases hin with⟨rfl,rfl,rfl⟩ | rfl
 ·simp only[List.length_nil] at hc1 HSL hm;go_upto_region 5 with fail;refine wp_region_held_drew (S:=See fb w.heap.size num at_ xv) (by kernel_rfl) (HF1.out.keep ((Bel.rfl_ W1).dr) |>.see (HX1.out.keep ((Bel.rfl_ W1).dr)) HQ1.out) (fun hS=>?_);refine b0A (i:=0) (some 27) (.pointer (some ⟨r,0,none⟩)) rfl hS (fun W _=>by kernel_rfl) ?_;refine b0A (i:=1) (some 28) (.pointer (some ⟨fb,0,none⟩)) rfl hS (fun W _=>by kernel_rfl) ?_;refine b0A (i:=2) (some 29) (.pointer (some ⟨fb,0,none⟩)) rfl hS (fun W _=>by kernel_rfl) ?_;refine b0A (i:=3) (some 30) (.pointer (some ⟨fb,0,none⟩)) rfl hS (fun W _=>by kernel_rfl) ?_;refine b0A (i:=4) (some 31) (.int .i64 num) rfl hS (fun W hb=>b0I hb.1) ?_;refine b0A (i:=5) (some 32) (.pointer (some ⟨fb,0,none⟩)) rfl hS (fun W _=>by kernel_rfl) ?_;refine b0A (i:=6) (some 33) (.pointer (some ⟨fb,0,none⟩)) rfl hS (fun W _=>by kernel_rfl) ?_;refine b0A (i:=7) (some 34) (.pointer (some ⟨fb,1,none⟩)) rfl hS (fun W _=>by kernel_rfl) ?_;refine b0A (i:=8) (some 35) (.int .i64 at_) rfl hS (fun W hb=>b0I hb.2.1) ?_;refine b0A (i:=9) (some 36) (.int .i64 0) rfl hS (fun W _=>by kernel_rfl) ?_;refine b0A (i:=10) (some 37) (.agg #[.int .i64 3,.int .i64 num,.int .i64 at_,.int .i64 0,.int .i64 0,.int .i64 0]) rfl hS (fun W _=>by kernel_rfl) ?_;refine b0v (i:=11) (some 38) rfl 148 #[.pointer (some ⟨r,0,none⟩),.agg #[.int .i64 3,.int .i64 num,.int .i64 at_,.int .i64 0,.int .i64 0,.int .i64 0]] (b2x w0 ps fuel fs L r [] steps made deep out 3 num at_ 0 0 0 _ (HR1.out.keep ((Bel.rfl_ W1).dr)) HL.out) ?_;rintro y W5 ⟨rfl,hR5,hK5⟩;have hF5:=(HF1.out.keep ((Bel.rfl_ W1).dr)).kept hK5 (Nat.le_refl _);have hX5:=(HX1.out.keep ((Bel.rfl_ W1).dr)).kept hK5 (Nat.lt_of_lt_of_le HX1.out.lt (Nat.le_refl _)) (by decide);refine⟨_,rfl,hF5.see hX5 HQ1.out,fun hS=>?_⟩;refine wpAnyH_done (by kernel_rfl) ?_ _;try simp only[Act.put,List.setIfInBounds_toArray,List.set_cons_zero,List.set_cons_succ]
  have HR5:=Lib.hid hR5;have HF5:=Lib.hid hF5;have HX5:=Lib.hid hX5;have HK5:=Lib.hid (HK1.out.tr ((Stays.bel ((Bel.rfl_ W1).dr) HR1.out.bel.size).tr (Stays.told hK5 (Nat.le_of_lt (Nat.lt_of_lt_of_le HLF.out (HK1.out.k.size))))));clear hS hR5 hF5 hX5 hK5;go_upto_region 6 with fail;refine wp_region_held_drew (S:=See fb w.heap.size num at_ xv) (by kernel_rfl) (HF5.out.keep ((Bel.rfl_ W5).dr) |>.see (HX5.out.keep ((Bel.rfl_ W5).dr)) HQ1.out) (fun hS=>?_);refine b0A (i:=0) (some 39) (.pointer (some ⟨r,0,none⟩)) rfl hS (fun W _=>by kernel_rfl) ?_;refine b0A (i:=1) (some 40) (.pointer (some ⟨fb,0,none⟩)) rfl hS (fun W _=>by kernel_rfl) ?_;refine b0A (i:=2) (some 41) (.pointer (some ⟨fb,0,none⟩)) rfl hS (fun W _=>by kernel_rfl) ?_;refine b0A (i:=3) (some 42) (.pointer (some ⟨fb,0,none⟩)) rfl hS (fun W _=>by kernel_rfl) ?_;refine b0A (i:=4) (some 43) (.pointer (some ⟨fb,1,none⟩)) rfl hS (fun W _=>by kernel_rfl) ?_;refine b0A (i:=5) (some 44) (.int .i64 at_) rfl hS (fun W hb=>b0I hb.2.1) ?_;refine b0A (i:=6) (some 45) (.pointer (some ⟨w.heap.size,1,none⟩)) rfl hS (fun W _=>by kernel_rfl) ?_;refine b0A (i:=7) (some 46) (.int .i64 xv) rfl hS (fun W hb=>b0I hb.2.2) ?_;refine b0A (i:=8) (some 47) (.int .i64 0) rfl hS (fun W _=>by kernel_rfl) ?_;refine b0v (i:=9) (some 48) rfl 163 #[.pointer (some ⟨r,0,none⟩),.pointer (some ⟨fb,0,none⟩),.int .i64 at_,.int .i64 xv,.int .i64 0,.int .i64 0] (HWV.out _ _ _ 0 (HR5.out.keep ((Bel.rfl_ W5).dr)) HL2.out (HF5.out.keep ((Bel.rfl_ W5).dr))) ?_;rintro y2 W6 ⟨rfl,hR6,hF6,hK6⟩;have hX6:=(HX5.out.keep ((Bel.rfl_ W5).dr)).kept hK6.j (HX5.out.lt) (by decide);refine⟨_,rfl,hF6.see hX6 HQ1.out,fun hS=>?_⟩;refine wpAnyH_done (by kernel_rfl) ?_ _;try simp only[Act.put,List.setIfInBounds_toArray,List.set_cons_zero,List.set_cons_succ]
  have HK6:=HK5.out.tr ((Stays.bel ((Bel.rfl_ W5).dr) HR5.out.bel.size).tr hK6);clear hS;exact bodyPost_end (v:=.tuple #[]) (results_none rfl _ _ _) rfl ⟨rfl,hR6,hF6,HK6⟩
 ·simp only[List.length_cons] at hc1 HSL hm;obtain⟨b,o,rfl,hA⟩:=HSL.out.lies (by simp)
  have hcc:tl.length+1≤c:=by
   obtain⟨A',c',he,h1,-,-⟩:=HSL.out;injection he with _ _ he;subst he;exact h1
  have hc0:W1.cell? ⟨b,o,none⟩=some (.int .i64 hd):=by
   have:=HR1.out.bel.cell (b2l.cell hA (show(hd::tl)[0]? = some hd from rfl))
   simpa using this
  clear hA;go_upto_region 5 with fail
  have HV2:Hid (Sl b2l w0 (.slice (if c=1 then some ⟨b,o,none⟩ else some ⟨b,o+1,none⟩) tl.length (c-1)) tl):=by
   have h2:=Sl.cut (r:=b2l) (w:=w0) (A:=some ⟨b,o,none⟩) (A':=if c=1 then some ⟨b,o,none⟩ else some ⟨b,o+1,none⟩) (c:=c) (C':=c-1) (i:=1) (j:=tl.length+1) (xs:=hd::tl) hcc (by obtain⟨A',c',he,-,h1,-⟩:=HSL.out;injection he with he0 _ he;subst he;subst he0;exact h1) (fun _=>⟨b,o,rfl,by obtain⟨b2,o2,he,hA⟩:=HSL.out.lies (by simp);injection he with he;injection he with he1 he2;subst he1;subst he2;exact hA⟩) (Nat.le_refl _) (by simp[b2l,Addr.add]) rfl;simp only[Nat.add_sub_cancel,List.drop_succ_cons,List.drop_zero,List.take_length] at h2;exact Lib.hid h2
  generalize(if c=1 then some (⟨b,o,none⟩:Addr) else some ⟨b,o+1,none⟩)=A2 at *;generalize c-1=c2 at *;obtain⟨zp,zi,zf,ze,hB1⟩:=HR1.out.blk;have HBK1:=Lib.hid hB1;clear hB1;have HR2:=Lib.hid (HR1.out.in_ HV2.out lo).1;have HK2:=Lib.hid (HK1.out.tr (Stays.ofAny fun hi=>(HR1.out.in_ HV2.out hi).2));have HF2:=Lib.hid (HF1.out.set_r HBK1.out 1 (.slice A2 tl.length c2));have HX2:=Lib.hid (HX1.out.aside HBK1.out (by decide) 1 (.slice A2 tl.length c2));clear HR1 HK1 HF1 HX1 HBK1 HSL hc1 hcf hc0 hcc;generalize W1.setCell ⟨r,1,none⟩ (.slice A2 tl.length c2)=W2 at *;refine wp_region_held_drew (S:=See fb w.heap.size num at_ xv) (by kernel_rfl) (HF2.out.keep ((Bel.rfl_ W2).dr) |>.see (HX2.out.keep ((Bel.rfl_ W2).dr)) HQ1.out) (fun hS=>?_);refine b0A (i:=0) (some 27) (.pointer (some ⟨r,0,none⟩)) rfl hS (fun W _=>by kernel_rfl) ?_;refine b0A (i:=1) (some 28) (.pointer (some ⟨fb,0,none⟩)) rfl hS (fun W _=>by kernel_rfl) ?_;refine b0A (i:=2) (some 29) (.pointer (some ⟨fb,0,none⟩)) rfl hS (fun W _=>by kernel_rfl) ?_;refine b0A (i:=3) (some 30) (.pointer (some ⟨fb,0,none⟩)) rfl hS (fun W _=>by kernel_rfl) ?_;refine b0A (i:=4) (some 31) (.int .i64 num) rfl hS (fun W hb=>b0I hb.1) ?_;refine b0A (i:=5) (some 32) (.pointer (some ⟨fb,0,none⟩)) rfl hS (fun W _=>by kernel_rfl) ?_;refine b0A (i:=6) (some 33) (.pointer (some ⟨fb,0,none⟩)) rfl hS (fun W _=>by kernel_rfl) ?_;refine b0A (i:=7) (some 34) (.pointer (some ⟨fb,1,none⟩)) rfl hS (fun W _=>by kernel_rfl) ?_;refine b0A (i:=8) (some 35) (.int .i64 at_) rfl hS (fun W hb=>b0I hb.2.1) ?_;refine b0A (i:=9) (some 36) (.int .i64 hd) rfl hS (fun W _=>by kernel_rfl) ?_;refine b0A (i:=10) (some 37) (.agg #[.int .i64 3,.int .i64 num,.int .i64 at_,.int .i64 0,.int .i64 0,.int .i64 hd]) rfl hS (fun W _=>by kernel_rfl) ?_
  refine b0v (i:=11) (some 38) rfl 148 #[.pointer (some ⟨r,0,none⟩),.agg #[.int .i64 3,.int .i64 num,.int .i64 at_,.int .i64 0,.int .i64 0,.int .i64 hd]] (b2x w0 ps fuel fs L r tl steps made deep out 3 num at_ 0 0 hd _ (HR2.out.keep ((Bel.rfl_ W2).dr)) HL.out) ?_;rintro y W5 ⟨rfl,hR5,hK5⟩;have hF5:=(HF2.out.keep ((Bel.rfl_ W2).dr)).kept hK5 (Nat.le_refl _);have hX5:=(HX2.out.keep ((Bel.rfl_ W2).dr)).kept hK5 (Nat.lt_of_lt_of_le HX2.out.lt (Nat.le_refl _)) (by decide);refine⟨_,rfl,hF5.see hX5 HQ1.out,fun hS=>?_⟩;refine wpAnyH_done (by kernel_rfl) ?_ _;try simp only[Act.put,List.setIfInBounds_toArray,List.set_cons_zero,List.set_cons_succ]
  have HR5:=Lib.hid hR5;have HF5:=Lib.hid hF5;have HX5:=Lib.hid hX5;have HK5:=Lib.hid (HK2.out.tr ((Stays.bel ((Bel.rfl_ W2).dr) HR2.out.bel.size).tr (Stays.told hK5 (Nat.le_of_lt (Nat.lt_of_lt_of_le HLF.out (HK2.out.k.size))))));clear hS hR5 hF5 hX5 hK5;go_upto_region 6 with fail;refine wp_region_held_drew (S:=See fb w.heap.size num at_ xv) (by kernel_rfl) (HF5.out.keep ((Bel.rfl_ W5).dr) |>.see (HX5.out.keep ((Bel.rfl_ W5).dr)) HQ1.out) (fun hS=>?_);refine b0A (i:=0) (some 39) (.pointer (some ⟨r,0,none⟩)) rfl hS (fun W _=>by kernel_rfl) ?_;refine b0A (i:=1) (some 40) (.pointer (some ⟨fb,0,none⟩)) rfl hS (fun W _=>by kernel_rfl) ?_;refine b0A (i:=2) (some 41) (.pointer (some ⟨fb,0,none⟩)) rfl hS (fun W _=>by kernel_rfl) ?_;refine b0A (i:=3) (some 42) (.pointer (some ⟨fb,0,none⟩)) rfl hS (fun W _=>by kernel_rfl) ?_;refine b0A (i:=4) (some 43) (.pointer (some ⟨fb,1,none⟩)) rfl hS (fun W _=>by kernel_rfl) ?_;refine b0A (i:=5) (some 44) (.int .i64 at_) rfl hS (fun W hb=>b0I hb.2.1) ?_;refine b0A (i:=6) (some 45) (.pointer (some ⟨w.heap.size,1,none⟩)) rfl hS (fun W _=>by kernel_rfl) ?_;refine b0A (i:=7) (some 46) (.int .i64 xv) rfl hS (fun W hb=>b0I hb.2.2) ?_;refine b0A (i:=8) (some 47) (.int .i64 hd) rfl hS (fun W _=>by kernel_rfl) ?_;refine b0v (i:=9) (some 48) rfl 163 #[.pointer (some ⟨r,0,none⟩),.pointer (some ⟨fb,0,none⟩),.int .i64 at_,.int .i64 xv,.int .i64 0,.int .i64 hd] (HWV.out _ _ _ hd (HR5.out.keep ((Bel.rfl_ W5).dr)) HL2.out (HF5.out.keep ((Bel.rfl_ W5).dr))) ?_;rintro y2 W6 ⟨rfl,hR6,hF6,hK6⟩;have hX6:=(HX5.out.keep ((Bel.rfl_ W5).dr)).kept hK6.j (HX5.out.lt) (by decide);refine⟨_,rfl,hF6.see hX6 HQ1.out,fun hS=>?_⟩;refine wpAnyH_done (by kernel_rfl) ?_ _;try simp only[Act.put,List.setIfInBounds_toArray,List.set_cons_zero,List.set_cons_succ]
  have HK6:=HK5.out.tr ((Stays.bel ((Bel.rfl_ W5).dr) HR5.out.bel.size).tr hK6);clear hS;exact bodyPost_end (v:=.tuple #[]) (results_none rfl _ _ _) rfl ⟨rfl,hR6,hF6,HK6⟩
theorem c1w(hR:RnM w0 ps fuel fs L r w inp steps made deep out)(hl:out.length≤99990)(hF:FrM w lo fb num at_ vs)(hlo:L≤lo){x:PC}{val:Value}(hx:PCV w x val){l:List Int}(hv0:0≤x.var)(hvl:vs[x.var.toNat]? = some l)(hi:0<l.length) :
  Calls Try.prog 160 #[.pointer (some ⟨r,0,none⟩),.pointer (some ⟨fb,0,none⟩),val] w fun y w'=>y=.returned (.tuple #[])∧RnM w0 ps fuel fs L r w' inp.tail steps made deep (out++[⟨3,num,at_,0,0,inp.headD 0⟩]++[⟨2,num,at_,x.var,0,inp.headD 0⟩])∧FrM w' lo fb num at_ (b2c vs x.var 0 (inp.headD 0))∧Stays w0.heap.size lo w w':=by
 refine c1x ?_ hR hl hF hlo hx hv0 hvl hi;cases inp with
 | nil=>exact Or.inl ⟨rfl,rfl,rfl⟩
 | cons n t=>exact Or.inr rfl
end
def b4R(vs:List (List Int))(x:PC):Int:=
 if(x.index.val vs).2≠0 then(x.index.val vs).2 else if(x.expr.val vs).2≠0 then(x.expr.val vs).2
 else if 0≤(x.index.val vs).1∧(x.index.val vs).1<(vs.getD x.var.toNat []).length then 0 else 3
section
variable {w0 w:World}{ps:List PF}{fuel:Int}{fs:FS}{L r lo fb:Nat}{inp:List Int}{steps made deep num at_:Int}{out:List Ev}{vs:List (List Int)}
theorem c3E(hR:RnM w0 ps fuel fs L r w inp steps made deep out)(hl:out.length≤99990)(hF:FrM w lo fb num at_ vs)(hlo:L≤lo){z:List Int}(hf:b4Z z vs){x:PC}{val:Value}(hx:PCV w x val)(hi:x.index.parts z=0)(he:x.expr.parts z=0)(hv0:0≤x.var)(hv1:x.var<z.length) :
  Calls Try.prog 161 #[.pointer (some ⟨r,0,none⟩),.pointer (some ⟨fb,0,none⟩),val] w fun y w' =>
   (b4R vs x≠0∧y=.returned (.bool false)∧RnM w0 ps fuel fs L r w' inp steps made deep (out++[⟨7,num,at_,0,0,b4R vs x⟩])∧Stays w0.heap.size lo w w') ∨
   (b4R vs x=0∧y=.returned (.bool true)∧RnM w0 ps fuel fs L r w' inp steps made deep (out++[⟨2,num,at_,x.var,(x.index.val vs).1,(x.expr.val vs).1⟩])∧FrM w' lo fb num at_ (b2c vs x.var (x.index.val vs).1 (x.expr.val vs).1)∧Stays w0.heap.size lo w w'):=by
 have HFLO:=Lib.hid hF.1;have HLF:=Lib.hid (Nat.lt_of_le_of_lt hF.1 (by obtain⟨-,v,hB,-⟩:=id hF;exact hB.lt));obtain⟨l,hvl⟩:∃l,vs[x.var.toNat]? = some l:=⟨_,List.getElem?_eq_getElem (by have:=hf.1;omega)⟩;have hsz:=hR.bel.size;obtain⟨cs,hcs,rfl⟩:=hx;obtain⟨vi,ve,va,vt,vz,hq,hvi,hve,-⟩:=b1Z hcs;have HB1:Hid (Bel w (w.alloc (.cells cs.toArray CMT))):=Lib.hid ((Bel.rfl_ w).al _);have HX1:=Lib.hid (Blk.new w CMT cs.toArray);have HR1:=Lib.hid (hR.keep HB1.out);have HF1:=Lib.hid (hF.keep HB1.out);have HK1:=Lib.hid (Stays.bel (lo:=lo) HB1.out hsz);have HL:Hid (out.length≤100000):=Lib.hid (by omega);have HIV:Hid (PEV (w.alloc (.cells cs.toArray CMT)) x.index (.agg #[.int .i64 x.index.kind,.int .i64 x.index.n,vi])):=Lib.hid ⟨vi,rfl,hvi.keep HB1.out⟩;have HEV:Hid (PEV (w.alloc (.cells cs.toArray CMT)) x.expr (.agg #[.int .i64 x.expr.kind,.int .i64 x.expr.n,ve])):=Lib.hid ⟨ve,rfl,hve.keep HB1.out⟩;have HWV:=Lib.hid (fun(W:World) (n:Int) (h1:RnM w0 ps fuel fs L r W inp steps made deep out) (h3:FrM W lo fb num at_ vs) (i:Int) (hi0:0≤i) (hi1:i<l.length)=>b3k h1 HL.out h3 hlo hv0 hvl hi0 hi1 at_ n);have HVI:=Lib.hid (fun(W:World) (h1:RnM w0 ps fuel fs L r W inp steps made deep out) (h3:FrM W lo fb num at_ vs) (h4:PEV W x.index (.agg #[.int .i64 x.index.kind,.int .i64 x.index.n,vi]))=>And.intro (@b7H _ _ _ _ _ _ _ _ _ _ _ _ _ _ _ _ _ h1 HL.out h3 _ hf _ hi _ h4) (@b5t _ _ _ _ _ _ _ _ _ _ _ _ _ _ _ _ _ h1 HL.out h3 _ hf _ hi _ h4));have HVE:=Lib.hid (fun(W:World) (h1:RnM w0 ps fuel fs L r W inp steps made deep out) (h3:FrM W lo fb num at_ vs) (h4:PEV W x.expr (.agg #[.int .i64 x.expr.kind,.int .i64 x.expr.n,ve]))=>And.intro (@b7H _ _ _ _ _ _ _ _ _ _ _ _ _ _ _ _ _ h1 HL.out h3 _ hf _ he _ h4) (@b5t _ _ _ _ _ _ _ _ _ _ _ _ _ _ _ _ _ h1 HL.out h3 _ hf _ he _ h4))
 have hln:l.length≤maxLen:=by
  obtain⟨-,v,-,gs,hgs⟩:=hF;obtain⟨g,-,-,h,-⟩:=hgs.get hvl;exact h
 have hP:b4R vs x=if(x.index.val vs).2≠0 then(x.index.val vs).2 else if(x.expr.val vs).2≠0 then(x.expr.val vs).2 else if 0≤(x.index.val vs).1∧(x.index.val vs).1<l.length then 0 else 3:=by unfold b4R;rw[b1A hvl]
 have HVL:=Lib.hid hvl;have i1:x.var<vs.length:=by have:=hf.1;omega
 clear hR hF hl hvi hve hcs hf hi he hvl hsz hv1;subst hq;generalize b4R vs x=H at *;generalize hxv:x.var=xv at *;generalize hin:(x.index.val vs).1=ni at *;generalize hih:(x.index.val vs).2=ih at *;generalize hen:(x.expr.val vs).1=ne at *;generalize heh:(x.expr.val vs).2=eh at *;clear hxv hin hih hen heh;go_enter Try.func161,Try.ntmps161;go_upto_region 1 with fail;generalize w.alloc (.cells (List.toArray [.int .i64 x.kind,.int .i64 xv,.int .i64 x.fn,.int .i64 x.index.kind,.int .i64 x.index.n,vi,.int .i64 x.expr.kind,.int .i64 x.expr.n,ve,va,vt,vz]) CMT)=W1 at *;have c3:=HX1.out.cell (i:=3) (v:=.int .i64 x.index.kind) rfl;have c4:=HX1.out.cell (i:=4) (v:=.int .i64 x.index.n) rfl;have c5:=HX1.out.cell (i:=5) (v:=vi) rfl;go_wp2_with fail
 by_cases a1:ih≠0
 ·refine((HVI.out W1 HR1.out HF1.out HIV.out).2 a1).mono ?_;rintro y w2 ⟨rfl,hR2,hK2⟩;rw[if_pos a1] at hP;subst hP;have HR2:=Lib.hid hR2;have HK2:=Lib.hid (HK1.out.tr (Stays.told hK2 (Nat.le_of_lt (Nat.lt_of_lt_of_le HLF.out HK1.out.k.size))));clear hR2 hK2 c3 c4 c5;go_wp2;go_ret;exact Or.inl ⟨a1,rfl,HR2.out,HK2.out⟩
 have a1':ih=0:=by simpa using a1
 subst a1';rw[if_neg a1] at hP;refine((HVI.out W1 HR1.out HF1.out HIV.out).1 rfl).mono ?_;rintro y w2 ⟨rfl,hb2⟩;have HB2:=Lib.hid hb2;have HX2:=Lib.hid (HX1.out.keep hb2);have HR2:=Lib.hid (HR1.out.keep hb2);have HF2:=Lib.hid (HF1.out.keep hb2);have HK2:=Lib.hid (HK1.out.tr (Stays.bel hb2 HR1.out.bel.size));have c6:=HX2.out.cell (i:=6) (v:=.int .i64 x.expr.kind) rfl;have c7:=HX2.out.cell (i:=7) (v:=.int .i64 x.expr.n) rfl;have c8:=HX2.out.cell (i:=8) (v:=ve) rfl;clear hb2 c3 c4 c5 HR1 HF1 HK1;go_wp2_with fail
 by_cases a2:eh≠0
 ·refine((HVE.out w2 HR2.out HF2.out (HEV.out.keep HB2.out)).2 a2).mono ?_;rintro y w3 ⟨rfl,hR3,hK3⟩;rw[if_pos a2] at hP;subst hP;have HR3:=Lib.hid hR3;have HK3:=Lib.hid (HK2.out.tr (Stays.told hK3 (Nat.le_of_lt (Nat.lt_of_lt_of_le HLF.out HK2.out.k.size))));clear hR3 hK3 c6 c7 c8;go_wp2;go_ret;exact Or.inl ⟨a2,rfl,HR3.out,HK3.out⟩
 have a2':eh=0:=by simpa using a2
 subst a2';rw[if_neg a2] at hP;refine((HVE.out w2 HR2.out HF2.out (HEV.out.keep HB2.out)).1 rfl).mono ?_;rintro y w3 ⟨rfl,hb3⟩;have HX3:=Lib.hid (HX2.out.keep hb3);have HR3:=Lib.hid (HR2.out.keep hb3);have HF3:=Lib.hid (HF2.out.keep hb3);have HK3:=Lib.hid (HK2.out.tr (Stays.bel hb3 HR2.out.bel.size));obtain⟨-,vv,hFB,gs,hgs⟩:=id HF3.out;obtain⟨b,c,g,rfl,-,hc,-,-⟩:=hgs.cell HVL.out;have f2:=hFB.cell (i:=2) (v:=.slice (some ⟨b,0,none⟩) vs.length c) rfl;have f1:=hFB.cell (i:=1) (v:=.int .i64 at_) rfl;have c1:=HX3.out.cell (i:=1) (v:=.int .i64 xv) rfl;clear hb3 c6 c7 c8 HR2 HF2 HK2 hFB hgs HVI HVE HX1 HX2;by_cases a3:ni<0
 ·have d1:decide (ni<0)=true:=decide_eq_true a3;rw[if_neg (by omega)] at hP;subst hP;clear HWV HIV HEV;go_wp2;go_quiet (fail)
  go_wp2_with fail
  refine(b4f (HR3.out.keep (Bel.drN (Bel.rfl_ w3) _)) HL.out (HF3.out.keep (Bel.drN (Bel.rfl_ w3) _)) at_ 3).mono ?_;rintro y w4 ⟨rfl,hR4,hK4⟩;have HR4:=Lib.hid hR4;have HK4:=Lib.hid ((HK3.out.tr (Stays.bel (Bel.drN (Bel.rfl_ w3) _) HR3.out.bel.size)).tr (Stays.told hK4 (Nat.le_of_lt (Nat.lt_of_lt_of_le HLF.out HK3.out.k.size))));clear hR4 hK4;go_wp2;go_ret;exact Or.inl ⟨by decide,rfl,HR4.out,HK4.out⟩
 have d1:decide (ni<0)=false:=decide_eq_false a3;by_cases a4:ni≥l.length
 ·have d2:decide (ni≥(l.length:Int))=true:=decide_eq_true a4;rw[if_neg (by omega)] at hP;subst hP;clear HWV HIV HEV;go_wp2;go_quiet (fail)
  go_wp2_with fail
  refine(b4f (HR3.out.keep (Bel.drN (Bel.rfl_ w3) _)) HL.out (HF3.out.keep (Bel.drN (Bel.rfl_ w3) _)) at_ 3).mono ?_;rintro y w4 ⟨rfl,hR4,hK4⟩;have HR4:=Lib.hid hR4;have HK4:=Lib.hid ((HK3.out.tr (Stays.bel (Bel.drN (Bel.rfl_ w3) _) HR3.out.bel.size)).tr (Stays.told hK4 (Nat.le_of_lt (Nat.lt_of_lt_of_le HLF.out HK3.out.k.size))));clear hR4 hK4;go_wp2;go_ret;exact Or.inl ⟨by decide,rfl,HR4.out,HK4.out⟩
 have d2:decide (ni≥(l.length:Int))=false:=decide_eq_false a4;have HN0:Hid (0≤ni):=Lib.hid (by omega);have HN1:Hid (ni<l.length):=Lib.hid (by omega);rw[if_pos ⟨HN0.out,HN1.out⟩] at hP;subst hP;go_wp2;go_quiet (fail)
 go_upto_region 9 with fail;have HB4:=Lib.hid (Bel.drN (Bel.rfl_ w3) nq);have HX4:=Lib.hid (HX3.out.keep HB4.out);have HR4:=Lib.hid (HR3.out.keep HB4.out);have HF4:=Lib.hid (HF3.out.keep HB4.out);have HK4:=Lib.hid (HK3.out.tr (Stays.bel HB4.out HR3.out.bel.size));clear HX3 HR3 HF3 HK3 HB4 f1 f2 c1 hc;generalize w3.drewN nq=W4 at *;refine wp_region_held_drew (S:=See fb w.heap.size num at_ xv) (by kernel_rfl) (HF4.out.keep ((Bel.rfl_ W4).dr) |>.see (HX4.out.keep ((Bel.rfl_ W4).dr)) rfl) (fun hS=>?_);refine b0A (i:=0) (some 52) (.pointer (some ⟨r,0,none⟩)) rfl hS (fun W _=>by kernel_rfl) ?_;refine b0A (i:=1) (some 53) (.pointer (some ⟨fb,0,none⟩)) rfl hS (fun W _=>by kernel_rfl) ?_;refine b0A (i:=2) (some 54) (.pointer (some ⟨fb,0,none⟩)) rfl hS (fun W _=>by kernel_rfl) ?_;refine b0A (i:=3) (some 55) (.pointer (some ⟨fb,0,none⟩)) rfl hS (fun W _=>by kernel_rfl) ?_;refine b0A (i:=4) (some 56) (.pointer (some ⟨fb,1,none⟩)) rfl hS (fun W _=>by kernel_rfl) ?_;refine b0A (i:=5) (some 57) (.int .i64 at_) rfl hS (fun W hb=>b0I hb.2.1) ?_;refine b0A (i:=6) (some 58) (.pointer (some ⟨w.heap.size,1,none⟩)) rfl hS (fun W _=>by kernel_rfl) ?_;refine b0A (i:=7) (some 59) (.int .i64 xv) rfl hS (fun W hb=>b0I hb.2.2) ?_;refine b0A (i:=8) (some 60) (.int .i64 ni) rfl hS (fun W _=>by kernel_rfl) ?_;refine b0A (i:=9) (some 61) (.int .i64 ne) rfl hS (fun W _=>by kernel_rfl) ?_;refine b0v (i:=10) (some 62) rfl 163 #[.pointer (some ⟨r,0,none⟩),.pointer (some ⟨fb,0,none⟩),.int .i64 at_,.int .i64 xv,.int .i64 ni,.int .i64 ne] (HWV.out _ ne (HR4.out.keep ((Bel.rfl_ W4).dr)) (HF4.out.keep ((Bel.rfl_ W4).dr)) ni HN0.out HN1.out) ?_;rintro y2 W6 ⟨rfl,hR6,hF6,hK6⟩;have hX6:=(HX4.out.keep ((Bel.rfl_ W4).dr)).kept hK6.j (HX4.out.lt) (by decide);refine⟨_,rfl,hF6.see hX6 rfl,fun hS=>?_⟩;refine wpAnyH_done (by kernel_rfl) ?_ _;try simp only[Act.put,List.setIfInBounds_toArray,List.set_cons_zero,List.set_cons_succ]
 have HK6:=Lib.hid (HK4.out.tr ((Stays.bel ((Bel.rfl_ W4).dr) HR4.out.bel.size).tr hK6));have HR6:=Lib.hid hR6;have HF6:=Lib.hid hF6;clear hS hR6 hF6 hK6 hX6;go_wp2;go_ret;first | exact Or.inr ⟨rfl,rfl,HR6.out,HF6.out,HK6.out⟩ | exact⟨rfl,HR6.out,HF6.out,HK6.out⟩
end
namespace Mc
theorem b5B(a:Int):∀(l:List Int) (i:Nat) (m:Mc),(writes a l i m).steps=m.steps
 | [],_,_=>rfl
 | n::l,i,m=>by rw[writes,b5B a l];rfl
theorem b9I(ps:List PF)(m:Mc)(x:PC)(f:Fr)(rest:List Fr):(call ps m x f rest).steps=m.steps:=by
 unfold call;split
 ·rfl
 split
 ·rfl
 ·rw[b5B];rfl
theorem b9H(ps:List PF)(m:Mc)(f:Fr)(rest:List Fr):(m.back ps f rest).steps=m.steps:=by
 unfold back;split
 ·rfl
 split
 ·rfl
 split
 ·rfl
 ·rfl
theorem c0D(m:Mc)(x:PC)(a:Int)(f:Fr):(cmd m x a f).steps=m.steps:=by
 unfold cmd;repeat' split
 all_goals rfl
theorem c1U(ps:List PF)(fuel:Int)(m:Mc):m.steps≤(m.do_ ps fuel).steps:=by
 unfold do_;split
 ·exact Int.le_refl _
 split
 ·exact Int.le_refl _
 ·rw[b9H];exact Int.le_refl _
 ·split
  ·exact Int.le_refl _
  split
  ·rw[b9I];exact Int.le_add_of_nonneg_right (by decide)
  ·rw[c0D];exact Int.le_add_of_nonneg_right (by decide)
theorem iter_steps(ps:List PF)(fuel:Int):∀(n:Nat) (m:Mc),m.steps≤(m.iter ps fuel n).steps
 | 0,m=>Int.le_refl _
 | n+1,m=>by
  refine Int.le_trans ?_ (iter_steps ps fuel n _);unfold go;split
  ·exact Int.le_refl _
  ·exact c1U ps fuel m
end Mc
theorem Reach.steps{ps:List PF}{fuel:Int}{m m':Mc}(h:Reach ps fuel m m'):m.steps≤m'.steps:=by
 obtain⟨n,rfl⟩:=h;exact Mc.iter_steps ps fuel n m
structure Env where
 w0:World
 ps:List PF
 fuel:Int
 fs:FS
 L:Nat
 r:Nat
def b8c(E:Env)(w:World)(σ:Mc)(deep:Int):Prop:=RnM E.w0 E.ps E.fuel E.fs E.L E.r w σ.inp σ.steps σ.made deep σ.out
structure Spot where
 lo:Nat
 fb:Nat
 num:Int
 fn:Int
 rest:List Fr
def AtS(E:Env)(p:Spot)(T:List Tk)(σ:Mc)(w:World):Prop:=
 ∃F,Good E.ps E.fuel σ F p.rest∧F.num=p.num∧F.fn=p.fn∧F.tasks=T∧FrM w p.lo p.fb p.num F.at_ F.vars∧b8c E w σ (p.rest.length+1)
def Res(E:Env)(p:Spot)(T:List Tk)(σ:Mc)(w:World)(b:Bool)(w':World):Prop:=
 ∃σ',Reach E.ps E.fuel σ σ'∧Stays E.w0.heap.size p.lo w w'∧(b=true→AtS E p T σ' w')∧(b=false→σ'.over=true∧∃d,b8c E w' σ' d)
theorem Res.on{E:Env}{p:Spot}{T:List Tk}{σ σ':Mc}{w w':World}(h1:Reach E.ps E.fuel σ σ')(h2:Stays E.w0.heap.size p.lo w w')(h3:AtS E p T σ' w'):Res E p T σ w true w':=⟨σ',h1,h2,(fun _=>h3),(fun h=>by cases h)⟩
theorem Res.over{E:Env}{p:Spot}{T:List Tk}{σ σ':Mc}{w w':World}{d:Int}(h1:Reach E.ps E.fuel σ σ')(h2:Stays E.w0.heap.size p.lo w w')(h3:σ'.over=true)(h4:b8c E w' σ' d):Res E p T σ w false w':=⟨σ',h1,h2,(fun h=>by cases h),fun _=>⟨h3,d,h4⟩⟩
theorem Res.after{E:Env}{p:Spot}{T:List Tk}{σ σ1:Mc}{w w1 w2:World}{b:Bool}(h1:Reach E.ps E.fuel σ σ1)(h2:Stays E.w0.heap.size p.lo w w1)(h:Res E p T σ1 w1 b w2):Res E p T σ w b w2:=by
 obtain⟨σ',g1,g2,g3,g4⟩:=h;exact⟨σ',h1.tr g1,h2.tr g2,g3,g4⟩
theorem AtS.keep{E:Env}{p:Spot}{T:List Tk}{σ:Mc}{w W:World}(h:AtS E p T σ w)(hb:Bel w W):AtS E p T σ W:=by
 obtain⟨F,h1,h2,h3,h4,h5,h6⟩:=h;exact⟨F,h1,h2,h3,h4,h5.keep hb,RnM.keep h6 hb⟩
theorem AtS.bel{E:Env}{p:Spot}{T:List Tk}{σ:Mc}{w:World}(h:AtS E p T σ w):Bel E.w0 w:=by
 obtain⟨F,h1,h2,h3,h4,h5,h6⟩:=h;exact RnM.bel h6
def b9p(E:Env)(N:Nat):Prop:=∀(p:Spot) (l:List PC) (at_:Int) (T:List Tk) (σ:Mc) (w:World) (vl:Value),AtS E p (b1G l at_++T) σ w→E.L≤p.lo→Sl pcR E.w0 vl l→E.fuel - σ.steps≤N→0≤at_→at_≤1000 →
 Calls Try.prog 114 #[.pointer (some ⟨E.r,0,none⟩),.pointer (some ⟨p.fb,0,none⟩),vl,.int .i64 at_] w fun y w'=>∃b,y=.returned (.bool b)∧Res E p T σ w b w'
def c3n(E:Env)(N:Nat):Prop:=∀(p:Spot) (x:PC) (at_:Int) (T:List Tk) (σ:Mc) (w:World) (val:Value),AtS E p (.cmd x at_::T) σ w→E.L≤p.lo→PCV E.w0 x val→E.fuel - σ.steps≤N →
 Calls Try.prog 147 #[.pointer (some ⟨E.r,0,none⟩),.pointer (some ⟨p.fb,0,none⟩),val,.int .i64 at_] w fun y w'=>∃b,y=.returned (.bool b)∧Res E p T σ w b w'
theorem AtS.ok{E:Env}{p:Spot}{T:List Tk}{x:PC}{a:Int}{σ:Mc}{w:World}(h:AtS E p (.cmd x a::T) σ w):∃z,b7J E.ps z x a∧c2e E.ps z T:=by
 obtain⟨F,h1,h2,h3,h4,h5,h6⟩:=h;obtain⟨g,-,-,-,ht,-⟩:=h1.ok;rw[h4] at ht;exact⟨g.sizes,ht⟩
theorem b9h{l:List PC}{j:Nat}{x:PC}(hx:l[j]? = some x)(a:Int):b1G (l.drop j) a=.cmd x a::b1G (l.drop (j+1)) (a+x.cnt):=by
 obtain⟨hl,rfl⟩:=List.getElem?_eq_some_iff.1 hx;rw[List.drop_eq_getElem_cons hl,b1G]
end Go.Proofs.Ytgkpplbomciehaa
