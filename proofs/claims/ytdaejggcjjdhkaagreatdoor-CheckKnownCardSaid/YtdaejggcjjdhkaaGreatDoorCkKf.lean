/- CkKf, CkKi -/
import Derived.Test.YtdaejggcjjdhkaaGreatDoorCkRl
import Derived.Test.YtdaejggcjjdhkaaGreatDoorCkFu
import Derived.Lib.ItoaWalk
set_option maxHeartbeats 2000000
set_option maxRecDepth 100000
namespace Go.Proofs.YtdaejggcjjdhkaaGreatDoor
open Go Go.RowKit
def lgL (l:ByteArray):List (World→Value→Prop):=
 let a:World→Value→Prop:=fun _ u=>u=.string l
 [a,Tx 140000,a,Tx 140000,a,a,Tx 140000,a,Tx 140000,RowV (Tx 140000) 5,fun _ u=>u=.int .i64 5,fun _ u=>u=.int .i64 0]
theorem lgS (l:ByteArray):∀ p∈lgL l,Stab p:=fun p hp=>by
 simp only [lgL,Kn,Kl,or_false] at hp;rcases hp with rfl | rfl | rfl | rfl | rfl | rfl | rfl | rfl | rfl | rfl | rfl | rfl
 all_goals first | exact stab_row (stab_tx _) _ | exact fun _ _ _ _ h=>h
theorem long_any (w:World) (E:Env w):Calls Tryz.prog 30 #[] w (Yes w):=by
 have HE:=hY E;clear E;go_enter Tryz.func30,Tryz.ntmps30;go_wp2_with fail;go_loopw [1] (fun t1 wr=>wr=w∧∃ s:ByteArray,t1=.string s∧8≤s.size∧s.size≤131072) (fun t1 _=>131073 - szOf t1)
 case atStart=>exact ⟨rfl,⟨#[97,98,99,100,101,102,103,104]⟩,rfl,by decide,by decide⟩
 case round =>
  obtain ⟨rfl,s,rfl,h8,hl⟩:=hrel;rename World=>w;rcases Jh 65536 s.size with hgt | hle
  · have i0:decide ((s.size:Int)≤65536)=false:=dF (by omega);have i1:¬ (s.size:Int)≤65536:=by omega
    have j1:(65536:Int)≤(s.size:Int):=by omega
    have j2:(65537:Int)≤(s.size:Int):=by omega
    have ad1:=add_b s ⟨#[39]⟩ (Jg (Nat.add_le_add hl (show (⟨#[39]⟩:ByteArray).size≤10 by decide)) (by decide));have ad2:=add_b s ⟨#[36,123]⟩ (Jg (Nat.add_le_add hl (show (⟨#[36,123]⟩:ByteArray).size≤10 by decide)) (by decide));have sl1:=jz s 65536 65536 rfl (by omega);have sl2:=jz s 65537 65537 rfl (by omega);go_upto_region 4 with fail;refine' z8 (fun wx=>Below w.heap.size w wx) (VLs (lgL s)) ?F ?hF (by kernel_rfl) (by kernel_rfl) (by kernel_rfl) (Ja _ _).drew ?st ?q
    case hF =>intro xs;refine (zz _ _ _).trans ?_;simp only [zR,Act.put,List.setIfInBounds_toArray,List.set_cons_zero,List.set_cons_succ,Nat.reduceAdd,Jq];exact rfl
    case st =>
     refine Steps.o [] (k:=1) (lgS _) (fun xs wx hS hV K hK=>?_) ?_
     · clear hV;go_simp;exact hK.out _ _ (Ja _ _) rfl
     refine Steps.o [0] (k:=2) (lgS _) (fun xs wx hS hV K hK=>?_) ?_
     · rw [show xs 0=.string s from hV.1] at hK ⊢;go_simp;exact hK.out _ _ (Ja _ _) ⟨_,rfl,by rw [ByteArray.size_extract];omega⟩
     refine Steps.o [] (k:=3) (lgS _) (fun xs wx hS hV K hK=>?_) ?_
     · clear hV;go_simp;exact hK.out _ _ (Ja _ _) rfl
     refine Steps.o [2] (k:=4) (lgS _) (fun xs wx hS hV K hK=>?_) ?_
     · rw [show xs 2=.string s from hV.1] at hK ⊢;go_simp;exact hK.out _ _ (Ja _ _) ⟨_,rfl,by rw [ByteArray.size_extract];omega⟩
     refine Steps.o [] (k:=5) (lgS _) (fun xs wx hS hV K hK=>?_) ?_
     · clear hV;go_simp;exact hK.out _ _ (Ja _ _) rfl
     refine Steps.o [] (k:=6) (lgS _) (fun xs wx hS hV K hK=>?_) ?_
     · clear hV;go_simp;exact hK.out _ _ (Ja _ _) rfl
     refine Steps.o [5] (k:=7) (lgS _) (fun xs wx hS hV K hK=>?_) ?_
     · rw [show xs 5=.string s from hV.1] at hK ⊢;go_simp;exact hK.out _ _ (Ja _ _) ⟨_,rfl,szA (n:=10) hl (by decide)⟩
     refine Steps.o [] (k:=8) (lgS _) (fun xs wx hS hV K hK=>?_) ?_
     · clear hV;go_simp;exact hK.out _ _ (Ja _ _) rfl
     refine Steps.o [7] (k:=9) (lgS _) (fun xs wx hS hV K hK=>?_) ?_
     · rw [show xs 7=.string s from hV.1] at hK ⊢;go_simp;exact hK.out _ _ (Ja _ _) ⟨_,rfl,szA (n:=10) hl (by decide)⟩
     refine Steps.o [1,3,4,6,8] (k:=10) (lgS _) (fun xs wx hS hV K hK=>?_) ?_
     · have e3:xs 4=.string s:=hV.2.2.1;have v1:Tx 140000 wx (xs 1):=hV.1;have v2:Tx 140000 wx (xs 3):=hV.2.1;have v4:Tx 140000 wx (xs 6):=hV.2.2.2.1;have v5:Tx 140000 wx (xs 8):=hV.2.2.2.2.1;clear hV;obtain ⟨x1,e1,z1⟩:=v1;obtain ⟨x2,e2,z2⟩:=v2;obtain ⟨x4,e4,z4⟩:=v4;obtain ⟨x5,e5,z5⟩:=v5;rw [e1,e2,e3,e4,e5] at hK ⊢;go_simp;exact hK.out _ _ ((Ja _ _).alloc (Jd _) _) (RowV.blk (p:=Tx 140000) (Blk.new _ _ _) (fc ⟨x1,rfl,z1⟩ (fc ⟨x2,rfl,z2⟩ (fc ⟨s,rfl,by omega⟩ (fc ⟨x4,rfl,z4⟩ (fc ⟨x5,rfl,z5⟩ fn))))))
     refine Steps.o [9] (k:=11) (lgS _) (fun xs wx hS hV K hK=>?_) ?_
     · have d:RowV (Tx 140000) 5 wx (xs 9):=hV.1;obtain ⟨g2,c2,us,e,-⟩:=d;rw [e] at hK ⊢;go_simp;exact hK.out _ _ (Ja _ _) rfl
     refine Steps.o [] (k:=12) (lgS _) (fun xs wx hS hV K hK=>?_) ?_
     · clear hV;go_simp;exact hK.out _ _ (Ja _ _) rfl
     exact Steps.nil
    case q =>
     intro xs wx hS hV;have d9:RowV (Tx 140000) 5 wx (xs 9):=hV 9 (by decide);have d10:xs 10=.int .i64 5:=hV 10 (by decide);have d11:xs 11=.int .i64 0:=hV 11 (by decide);obtain ⟨g,c,e⟩:=d9.form;rw [e] at d9 ⊢;rw [d10,d11];have D:=hY d9;have PX:=hY hS;have EX:=hY (HE.out.new hS);clear d9 d10 d11 hV hS e HE hgt ad1 ad2 sl1 sl2 i0 i1 j1 j2;go_wp2_with fail;go_loopw [23,3,4,5] (fun t23 _ _ _ wr=>∃ i:Nat,i≤5∧t23=.int .i64 (i:Int)∧Hid (Below wx.heap.size wx wr)) (fun t23 _ _ _ _=>5 - (intOf t23).toNat)
     case atStart=>exact ⟨0,by omega,rfl,hY (Ja _ _)⟩
     case round =>
      rename World=>wr;obtain ⟨i,hi,rfl,HB⟩:=hrel;have j0:(0:Int)≤(i:Int):=by omega
      rcases Jh i 5 with hin | hin
      · have i0:decide ((i:Int)<5)=true:=dT (by omega);have i1:(i:Int)<5:=by omega
        obtain ⟨u,hc,x,rfl,hx⟩:=(stab_row (stab_tx _) _ _ _ _ HB.out D.out).el hin;have HX:=hY hx;clear hx;obtain ⟨l,rfl⟩:∃ l,x=bs l:=⟨bl x,(Ym x).symm⟩
        replace HX:=hY (show l.length≤140000 by have:=HX.out;rwa [zd] at this);go_upto_region 8 with fail;go_name_world W1 hW1;have b1:Below wr.heap.size wr W1:=by
         rw [←hW1]
         repeat' first | exact Ja _ _ | refine Below.alloc ?_ (by first | exact Jd _ | (simp only [Jb];omega)) _
        have k1:Blk W1 (wr.heap.size+1) 25 #[.int .u8 92,.slice none 0 0,.slice (some ⟨wr.heap.size,0,none⟩) 1 1]:=by rw [←hW1];exact Blk.newK (by simp only [Jb])
        have k2:Blk W1 wr.heap.size 53 #[.int .i64 1,.string (bs l),.string (bs []),.slice none 0 0]:=by rw [←hW1];exact (Blk.newK rfl).alloc _
        have X:Box W1 (wr.heap.size+1) 25 3 (.agg #[.int .u8 92,.slice none 0 0,.slice (some ⟨wr.heap.size,0,none⟩) 1 1]):=⟨_,rfl,rfl,k1⟩
        have F:FlV 1048576 W1 (.agg #[.int .u8 92,.slice none 0 0,.slice (some ⟨wr.heap.size,0,none⟩) 1 1]):=FlV.mk (N:=140000) 92 (StsV.nil W1) (sgs1 k2 (StsV.nil W1) HX.out (by decide) (by decide)) (by decide);obtain ⟨G1,hG1⟩:∃ G,wr.heap.size+1=G:=⟨_,rfl⟩
        obtain ⟨FV,hFV⟩:∃ F:Value,.agg #[.int .u8 92,.slice none 0 0,.slice (some ⟨wr.heap.size,0,none⟩) 1 1]=F:=⟨_,rfl⟩
        rw [hG1,hFV] at X;rw [hFV] at F;rw [hG1];replace X:=hY X;replace F:=hY F;have P:=hY (HB.out.trans (b1.mono HB.out.size));have E:=hY (EX.out.new P.out);clear hW1 k1 k2 b1 hG1 hc hFV;go_wp2_with fail;refine (step_mk (N:=140000) 5 [[60,60,69],[98]] (SlA.blk (cs:=sc [[60,60,69],[98]]) (Blk.new _ _ _)) ⟨by decide,by decide⟩).mono ?_;rintro r w1 ⟨u,rfl,su,p2⟩;replace p2:=below_new p2;replace E:=hY (E.out.new p2);replace X:=hY (X.out.new p2 X.out.lt);replace F:=hY (F.out.new p2);replace P:=hY (P.out.trans (p2.mono P.out.size));clear p2;have fu:=su.flat;obtain ⟨T,rfl,-,-⟩:=su.flat;go_upto_region 9 with (refine wpList_want (fun K hK=>wp_box0 yu fu fun w3 x3 q3 z3=>hK _ _ ?_);clear hK K)
        rw [Yh];replace z3:=hY z3;have x4:=x3.new ((Ja w3.heap.size w3).alloc (Jd _) (.cells #[.string ⟨#[69]⟩,.bool false,.int .i64 0,.string (bs l)] 63)) x3.lt;obtain ⟨y4,c4⟩:=x4.cell (i:=8) (by omega);have f4:=x4.frozen 8;go_upto_region 10 with fail;obtain ⟨v,W5,hW5,Y,SY,q5⟩:=bxd su x3 q3 z3.out l 1048576 (by decide) (Jg HX.out (by decide));rw [hW5];replace E:=hY (E.out.new q5);replace X:=hY (X.out.new q5 X.out.lt);replace F:=hY (F.out.new q5);replace P:=hY (P.out.trans (q5.mono P.out.size));replace Y:=hY Y;replace SY:=hY SY;clear q5 hW5 su fu x3 x4 q3 z3 c4 f4;go_wp2_with fail;refine (step_mk (N:=1048576) 11 [l] (SlA.blk (cs:=sc [l]) (Blk.new _ _ _)) (le_w (Kk rfl) (fc (Jg HX.out (by decide)) fn))).mono ?_;rintro r w3 ⟨u,rfl,su,p4⟩;replace p4:=below_new p4;replace E:=hY (E.out.new p4);replace X:=hY (X.out.new p4 X.out.lt);replace F:=hY (F.out.new p4);replace P:=hY (P.out.trans (p4.mono P.out.size));replace Y:=hY (Y.out.new p4 Y.out.lt);replace SY:=hY (SY.out.new p4);go_wp2_with fail;refine (kSteps false su E.out).mono ?_;rintro r w5 ⟨rfl,p6⟩;replace E:=hY (E.out.new p6);replace X:=hY (X.out.new p6 X.out.lt);replace F:=hY (F.out.new p6);replace P:=hY (P.out.trans (p6.mono P.out.size));replace Y:=hY (Y.out.new p6 Y.out.lt);replace SY:=hY (SY.out.new p6);clear p4 p6 su;go_wp2_with fail;refine (pair_mk (N:=1048576) 2 [65] l (le_p (by decide) (by decide) (Jg HX.out (by decide)))).mono ?_;rintro r w7 ⟨u,rfl,su,p8⟩;replace E:=hY (E.out.new p8);replace X:=hY (X.out.new p8 X.out.lt);replace F:=hY (F.out.new p8);replace P:=hY (P.out.trans (p8.mono P.out.size));replace Y:=hY (Y.out.new p8 Y.out.lt);replace SY:=hY (SY.out.new p8);go_wp2_with fail;refine (kSteps true su E.out).mono ?_;rintro r w9 ⟨rfl,p10⟩;replace E:=hY (E.out.new p10)
        replace X:=hY (X.out.new p10 X.out.lt);replace F:=hY (F.out.new p10);replace P:=hY (P.out.trans (p10.mono P.out.size));replace Y:=hY (Y.out.new p10 Y.out.lt);replace SY:=hY (SY.out.new p10);clear p8 p10 su;go_wp2_with (refine wpList_want (fun K hK=>wp_unbox Q4 X.out (hK _ _ ?_));clear hK K);refine (kFiles  F.out E.out).mono ?_;rintro r w11 ⟨rfl,p12⟩;replace E:=hY (E.out.new p12);replace X:=hY (X.out.new p12 X.out.lt);replace F:=hY (F.out.new p12);replace P:=hY (P.out.trans (p12.mono P.out.size));replace Y:=hY (Y.out.new p12 Y.out.lt);replace SY:=hY (SY.out.new p12);clear p12;go_wp2_with (refine wpList_want (fun K hK=>wp_unbox yu Y.out (hK _ _ ?_));clear hK K);refine (kSteps false SY.out E.out).mono ?_;rintro r w13 ⟨rfl,p14⟩;replace E:=hY (E.out.new p14);replace X:=hY (X.out.new p14 X.out.lt);replace F:=hY (F.out.new p14);replace P:=hY (P.out.trans (p14.mono P.out.size));replace Y:=hY (Y.out.new p14 Y.out.lt);replace SY:=hY (SY.out.new p14);clear p14;go_wp2_with fail;go_roundw
        case rel=>exact ⟨i+1,by omega,by go_num,P⟩
        case measure=>simp [intOf];omega
      · have i0:decide ((i:Int)<5)=false:=dF (by omega);have i1:¬ (i:Int)<5:=by omega
        go_wp2_with fail;go_ret;exact ⟨rfl,PX.out.trans (HB.out.mono PX.out.size)⟩
  · have i0:decide ((s.size:Int)≤65536)=true:=dT (by omega);have i1:(s.size:Int)≤65536:=by omega
    go_wp2_with fail;go_roundw
    case rel=>exact ⟨by trivial,_,rfl,by rw [Kp];omega,by rw [Kp];omega⟩
    case measure=>simp only [szOf,Kp];omega
def PTx (N:Nat) (w:World) (u:Value):Prop:=∃ (g j:Nat) (x:ByteArray),u=.pointer (some ⟨g,j,none⟩)∧w.cell? ⟨g,j,none⟩=some (.string x)∧x.size≤N
def PSt (N:Nat) (w:World) (u:Value):Prop:=∃ (g q:Nat) (T:List Value),u=.pointer (some ⟨g,q,none⟩)∧w.rangeAt g q T∧T.length=10∧StV N w (.agg T.toArray)
def Ix (n:Nat) (_:World) (u:Value):Prop:=∃ j:Nat,j<n∧u=.int .i64 (j:Int)
def Bx (B:Nat) (w:World) (u:Value):Prop:=∃ p:Nat,u=.pointer (some ⟨p,0,none⟩)∧B≤p∧Blk w p 25 #[.int .u8 0,.slice none 0 0,.slice none 0 0]
theorem stab_ptx (N:Nat):Stab (PTx N):=fun _ _ _ k ⟨g,j,x,e,h1,h2⟩=>⟨g,j,x,e,(k.cell (p:=⟨g,j,none⟩) (Je _ _ h1)).trans h1,h2⟩
theorem range_new {w w':World} {g q:Nat} {T:List Value} (h:w.rangeAt g q T) (k:Below w.heap.size w w'):w'.rangeAt g q T:=fun j x hx=>(k.cell (p:=⟨g,q+j,none⟩) (Je _ _ (h j x hx))).trans (h j x hx)
theorem stab_pst (N:Nat):Stab (PSt N):=fun _ _ _ k ⟨g,q,T,e,h1,h2,h3⟩=>⟨g,q,T,e,range_new h1 k,h2,h3.new k⟩
theorem stab_ix (n:Nat):Stab (Ix n):=fun _ _ _ _ h=>h
theorem stab_bx (B:Nat):Stab (Bx B):=fun _ _ _ b ⟨p,e,h1,h2⟩=>⟨p,e,h1,h2.below b h2.lt⟩
def NoT (Z:Array Value):Prop:=∀ z∈Z.toList,(∀ n,z≠.int .i64 n)∧∀ s,z≠.string s
section
variable {w w':World} {p N n:Nat} {t:TypeId} {Z:Array Value} {v:Value}
theorem SlA.but {xs:List Value} (h:SlA w v n xs) (hg:w.grownBy w' (some p)) (hb:Blk w p t Z) (hZ:NoT Z) (hx:∀ x,xs[0]?=some x→(∃ n,x=.int .i64 n)∨∃ s,x=.string s):SlA w' v n xs:=by
 rcases h with h | ⟨g,o,c,rfl,hc⟩
 · exact .inl h
 · refine .inr ⟨g,o,c,rfl,fun j u hu=>?_⟩;have hne:g≠p:=by
    rintro rfl;obtain ⟨x,hx0⟩:∃ x,xs[0]?=some x:=⟨xs[0]'(by have:=(List.getElem?_eq_some_iff.1 hu).1;omega),Jk _⟩
    have q:=hc 0 x hx0;rw [hb.cell] at q;have hm:x∈Z.toList:=by have:=Array.mem_of_getElem? q;exact Array.mem_toList_iff.2 this
    rcases hx x hx0 with ⟨n,rfl⟩ | ⟨s,rfl⟩
    · exact (hZ _ hm).1 n rfl
    · exact (hZ _ hm).2 s rfl
   exact (Fx.of_grown hg).cell (hc j u hu) (fun e=>by injection e with e;exact hne e.symm)
theorem fm_first {α:Type} {f:α→List Value} (hf:∀ x,∃ y l,f x=y::l∧((∃ n,y=.int .i64 n)∨∃ s,y=.string s)):∀ (l:List α) (x:Value),(l.flatMap f)[0]?=some x→(∃ n,x=.int .i64 n)∨∃ s,x=.string s
 | [],_,h=>by simp at h
 | a::l,x,h=>by obtain ⟨y,q,e,hy⟩:=hf a;rw [Ke,e] at h;simp only [List.cons_append,Ku,Option.some.injEq] at h;exact h ▸ hy
theorem sc_first (l:List (List UInt8)) (x:Value) (h:(sc l)[0]?=some x):(∃ n,x=.int .i64 n)∨∃ s,x=.string s:=by
 cases l with
 | nil=>simp [sc] at h
 | cons a l =>simp only [sc,List.map_cons,Ku,Option.some.injEq] at h;exact .inr ⟨_,h.symm⟩
variable (hg:w.grownBy w' (some p)) (hb:Blk w p t Z) (hZ:NoT Z)
include hg hb hZ
theorem SM.Ok.but {m:SM} (h:m.Ok w):m.Ok w':=⟨h.cp.but hg hb hZ (fm_first (fun _=>⟨_,_,rfl,.inr ⟨_,rfl⟩⟩) _),h.cw.but hg hb hZ (sc_first _),h.cd.but hg hb hZ (fm_first (fun _=>⟨_,_,rfl,.inr ⟨_,rfl⟩⟩) _),h.ce.but hg hb hZ (sc_first _),h.dn⟩
theorem StsA.but {l:List SM} (h:StsA w v l):StsA w' v l:=⟨h.1.but hg hb hZ (fm_first (fun _=>⟨_,_,rfl,.inl ⟨_,rfl⟩⟩) _),fun m hm=>(h.2 m hm).but hg hb hZ⟩
theorem StsV.but (h:StsV N n w v):StsV N n w' v:=by obtain ⟨l,e,h1,h2⟩:=h;exact ⟨l,e,h1.but hg hb hZ,h2⟩
theorem FlV.but (h:FlV N w v):FlV N w' v:=by obtain ⟨f,e,h1,h2⟩:=h;exact ⟨f,e,⟨h1.a.but hg hb hZ,h1.g.1.but hg hb hZ (fm_first (fun _=>⟨_,_,rfl,.inl ⟨_,rfl⟩⟩) _),fun g hm=>(h1.g.2 g hm).but hg hb hZ⟩,h2⟩
end
theorem FlV.noT {N:Nat} {w:World} {T:Array Value} (h:FlV N w (.agg T)):NoT T:=by
 obtain ⟨f,e,h1,-⟩:=h;injection e with e;subst e;obtain ⟨A,c,ea⟩:=h1.a.1.form;obtain ⟨B,d,eb⟩:=h1.g.1.form;intro z hz;simp only [Kn,Kl,or_false,ea,eb] at hz;rcases hz with rfl | rfl | rfl
 all_goals exact ⟨fun n e=>(by cases e),fun s e=>(by cases e)⟩
theorem wantedg {o:Oper} {ys:Nat→Option Bool} {A B:Prop} (h:A) (hw:Region.wanted o ys=true:=by rfl):if Region.wanted o ys=true then A else B:=by rw [if_pos hw];exact h
theorem FlV.args_ {N K M n:Nat} {w:World} {T:Array Value} {v:Value} (h:FlV N w (.agg T)) (hs:StsV K n w v) (h1:N+n≤M) (h2:K≤M):FlV M w (.agg (T.setIfInBounds 1 v)):=by
 obtain ⟨f,e,k1,k2⟩:=h;injection e with e;subst e;obtain ⟨l,rfl,s1,s2⟩:=hs;refine ⟨{ f with va:=v,args:=l },rfl,⟨s1,k1.g⟩,fun m hm=>(s2 m hm).mono h2,fun g hg=>?_,?_⟩
 · have q:=k2.2.1 g hg;exact ⟨by have:=q.1;omega,by have:=q.2.1;omega,fun m hm=>(q.2.2 m hm).mono (by omega)⟩
 · have q:=k2.2.2;show f.stages.length+(l.length+(f.stages.map fun g=>g.ms.length).sum)≤M;omega
theorem FlV.mono {N M:Nat} {w:World} {u:Value} (h:FlV N w u) (k:N≤M):FlV M w u:=by obtain ⟨f,e,h1,h2,h3,h4⟩:=h;exact ⟨f,e,h1,fun m hm=>(h2 m hm).mono k,fun g hg=>⟨Jg (h3 g hg).1 k,Jg (h3 g hg).2.1 k,fun m hm=>((h3 g hg).2.2 m hm).mono k⟩,Jg h4 k⟩
theorem bxf {w w0:World} {g7 g9 B N n K:Nat} {T:Array Value} {v:Value} (X7:Box w g7 25 3 (.agg T)) (X9:Box w g9 25 3 (.agg T)) (F:FlV N w (.agg T)) (s:StsV K n w v) (hne:g7≠g9) (hb:Below B w0 w) (h9:B≤g9) (h1:N+n≤1048576) (h2:K≤1048576):
  ∃ W u,w.setCell ⟨g9,1,none⟩ v=W∧Box W g7 25 3 (.agg T)∧Box W g9 25 3 u∧FlV 1048576 W (.agg T)∧FlV 1048576 W u∧Below B w0 W:=by
 obtain ⟨T',e,k1,k2⟩:=X9;injection e with e;subst e;have g:=yK w ⟨g9,1,none⟩ v;have F':=F.but g k2 F.noT;exact ⟨_,_,rfl,X7.but g hne,Box.setF ⟨_,rfl,k1,k2⟩ 1 v,F'.mono (by omega),F'.args_ (s.but g k2 F.noT) h1 h2,hb.setCell h9 _⟩
theorem noT0:NoT #[.int .u8 0,.slice none 0 0,.slice none 0 0]:=fun z hz=>by
 simp only [Kn,Kl,or_false] at hz;rcases hz with rfl | rfl | rfl
 all_goals exact ⟨fun n e=>(by cases e),fun s e=>(by cases e)⟩
theorem SgsV.form {N n:Nat} {w:World} {v:Value} (h:SgsV N n w v):∃ A c,v=.slice A n c:=by obtain ⟨l,rfl,h1,-⟩:=h;exact h1.form
theorem StsV.mono {N M n:Nat} {w:World} {u:Value} (h:StsV N n w u) (k:N≤M):StsV M n w u:=by obtain ⟨l,e,h1,h2⟩:=h;exact ⟨l,e,h1,fun m hm=>(h2 m hm).mono k⟩
def n9L (a b:Value) (i k B:Nat):List (World→Value→Prop):=[fun _ u=>u=a,fun _ u=>u=.int .i64 (i:Int),PTx 200,Tx 200,SgV 200,fun _ u=>u=a,fun _ u=>u=.int .i64 (k:Int),PTx 200,Tx 200,RowV (Tx 10) 4,fun _ u=>u=.int .i64 (k:Int),Ix 4,PTx 200,Tx 200,fun _ u=>u=b,fun _ u=>u=.int .i64 (i:Int),fun _ u=>u=.int .i64 (k:Int),fun _ u=>u=.int .i64 ((i:Int)+(k:Int)),fun _ u=>u=b,fun _ u=>u=.int .i64 17,Ix 17,PSt 100,StV 100,StsV 100 1,SgV 200,SgsV 200 2,FlV 1048576,Bx B]
theorem n9S (a b:Value) (i k B:Nat):∀ p∈n9L a b i k B,Stab p:=fun p hp=>by
 simp only [n9L,Kn,Kl,or_false] at hp;rcases hp with rfl | rfl | rfl | rfl | rfl | rfl | rfl | rfl | rfl | rfl | rfl | rfl | rfl | rfl | rfl | rfl | rfl | rfl | rfl | rfl | rfl | rfl | rfl | rfl | rfl | rfl | rfl | rfl
 all_goals first | exact stab_eq _ | exact stab_tx _ | exact stab_ptx _ | exact stab_ix _ | exact stab_pst _ | exact stab_st _ | exact stab_sts _ _ | exact stab_sg _ | exact stab_sgs _ _ | exact stab_fl _ | exact stab_bx _ | exact stab_sl _ _ | exact stab_row (stab_tx _) _
def n10L (a b:Value) (i k:Nat):List (World→Value→Prop):=[fun _ u=>u=a,fun _ u=>u=.bool true,fun _ u=>u=.bool false,fun _ u=>u=.bool false,fun _ u=>u=a,fun _ u=>u=.int .i64 (i:Int),fun _ u=>u=.bool true,fun _ u=>u=.bool false,fun _ u=>u=.bool false,fun _ u=>u=.bool false,fun _ u=>u=a,fun _ u=>u=b,fun _ u=>u=.int .i64 (k:Int),PSt 100,StV 100,fun _ u=>u=.bool true,fun _ u=>u=.bool false,fun _ u=>u=.bool false]
theorem n10S (a b:Value) (i k:Nat):∀ p∈n10L a b i k,Stab p:=fun p hp=>by
 simp only [n10L,Kn,Kl,or_false] at hp;rcases hp with rfl | rfl | rfl | rfl | rfl | rfl | rfl | rfl | rfl | rfl | rfl | rfl | rfl | rfl | rfl | rfl | rfl | rfl
 all_goals first | exact stab_eq _ | exact stab_tx _ | exact stab_ptx _ | exact stab_ix _ | exact stab_pst _ | exact stab_st _ | exact stab_sts _ _ | exact stab_sg _ | exact stab_sgs _ _ | exact stab_fl _ | exact stab_bx _ | exact stab_sl _ _ | exact stab_row (stab_tx _) _
def n15L (b:Value) (j B:Nat):List (World→Value→Prop):=[StV 100,fun _ u=>u=b,fun _ u=>u=.int .i64 (j:Int),PSt 100,StV 100,StsV 100 2,SgV 200,SgsV 200 1,FlV 2000,Bx B]
theorem n15S (b:Value) (j B:Nat):∀ p∈n15L b j B,Stab p:=fun p hp=>by
 simp only [n15L,Kn,Kl,or_false] at hp;rcases hp with rfl | rfl | rfl | rfl | rfl | rfl | rfl | rfl | rfl | rfl
 all_goals first | exact stab_eq _ | exact stab_tx _ | exact stab_ptx _ | exact stab_ix _ | exact stab_pst _ | exact stab_st _ | exact stab_sts _ _ | exact stab_sg _ | exact stab_sgs _ _ | exact stab_fl _ | exact stab_bx _ | exact stab_sl _ _ | exact stab_row (stab_tx _) _
def n19L :List (World→Value→Prop):=[StV 100,StV 100,StsV 100 2]
theorem n19S :∀ p∈n19L ,Stab p:=fun p hp=>by
 simp only [n19L,Kn,Kl,or_false] at hp;rcases hp with rfl | rfl | rfl
 all_goals first | exact stab_eq _ | exact stab_tx _ | exact stab_ptx _ | exact stab_ix _ | exact stab_pst _ | exact stab_st _ | exact stab_sts _ _ | exact stab_sg _ | exact stab_sgs _ _ | exact stab_fl _ | exact stab_bx _ | exact stab_sl _ _ | exact stab_row (stab_tx _) _
end Go.Proofs.YtdaejggcjjdhkaaGreatDoor
