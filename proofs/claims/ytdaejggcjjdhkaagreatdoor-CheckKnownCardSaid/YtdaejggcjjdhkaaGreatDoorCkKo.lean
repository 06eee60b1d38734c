/- CkKd, CkKo, CkKp -/
import Derived.Test.YtdaejggcjjdhkaaGreatDoorCkRl
import Derived.Test.YtdaejggcjjdhkaaGreatDoorCkKn
import Derived.Lib.ItoaWalk
import Derived.Test.YtdaejggcjjdhkaaGreatDoorCkKf
import Derived.Test.YtdaejggcjjdhkaaGreatDoorCkKg
import Derived.Test.YtdaejggcjjdhkaaGreatDoorCkKh
import Derived.Test.YtdaejggcjjdhkaaGreatDoorCkKj
import Derived.Test.YtdaejggcjjdhkaaGreatDoorCkKl
set_option maxHeartbeats 2000000
set_option maxRecDepth 100000
namespace Go.Proofs.YtdaejggcjjdhkaaGreatDoor
open Go Go.RowKit
def shL (l:Value):List (World→Value→Prop):=[fun _ u=>u=l,StV 100,StV 100,fun w u=>SlA w u 1 (sc [[120]]),StV 100,fun w u=>SlA w u 2 (sc [[120],[121]]),StV 100,StV 100,StV 100,StV 100,StV 100,StsV 100 8,StsV 100 25,fun _ u=>u=.int .i64 25,fun _ u=>u=.int .i64 0]
theorem shS (l:Value):∀ p∈shL l,Stab p:=fun p hp=>by
 simp only [shL,Kn,Kl,or_false] at hp;rcases hp with rfl | rfl | rfl | rfl | rfl | rfl | rfl | rfl | rfl | rfl | rfl | rfl | rfl | rfl | rfl
 all_goals first | exact stab_eq _ | exact stab_st _ | exact stab_sts _ _ | exact stab_sl _ _
theorem shown_any (w:World) (E:Env w):Calls Tryz.prog 27 #[] w (Yes w):=by
 have HE:=hY E;clear E;go_enter Tryz.func27,Tryz.ntmps27;go_wp2_with fail;refine (rights_any w).mono ?_;rintro r w1 ⟨g,rfl,s1,p1⟩;obtain ⟨L5,a5,c5,b5⟩:=s1.el (i:=5) (by omega);go_upto_region 3 with (first | (refine wpList_plain rfl fun K hK=>wp_mid yu a5 c5 (hK _ _ ?_);clear hK K) | (refine wpList_plain rfl fun K hK=>wp_box0 yu b5.flat fun w2 x2 q2 z2=>hK _ _ ?_;clear hK K))
 rw [Yh];obtain ⟨y2,c2⟩:=x2.cell (i:=2) (by omega);have f2:=x2.frozen 2;go_upto_region 4 with fail;have x3:=x2.setF 2 (.string ⟨#[65]⟩);have t3:=b5.from_ [65] (by decide);have q3:Below w1.heap.size w1 (w2.setCell ⟨w1.heap.size,2,none⟩ (.string ⟨#[65]⟩)):=q2.setCell (Jd _) _;obtain ⟨w3,hw3⟩:∃ y,w2.setCell ⟨w1.heap.size,2,none⟩ (.string ⟨#[65]⟩)=y:=⟨_,rfl⟩
 rw [hw3] at x3 q3 ⊢;clear hw3 c2 f2 x2 q2 z2 a5 c5 b5;have s3:=s1.new q3;have t3:=t3.new q3;obtain ⟨L8,a8,c8,b8⟩:=s3.el (i:=8) (by omega);go_upto_region 5 with (first | (refine wpList_plain rfl fun K hK=>wp_mid yu a8 c8 (hK _ _ ?_);clear hK K) | (refine wpList_plain rfl fun K hK=>wp_box0 yu b8.flat fun w4 x4 q4 z4=>hK _ _ ?_;clear hK K))
 rw [Yh];obtain ⟨y4,c4⟩:=x4.cell (i:=4) (by omega);have f4:=x4.frozen 4;go_upto_region 6 with fail;have x5:=x4.setF 4 (.bool true);have t5:=b8.force_ true;have q5:Below w3.heap.size w3 (w4.setCell ⟨w3.heap.size,4,none⟩ (.bool true)):=q4.setCell (Jd _) _;obtain ⟨wa,hwa⟩:∃ y,w4.setCell ⟨w3.heap.size,4,none⟩ (.bool true)=y:=⟨_,rfl⟩
 rw [hwa] at x5 q5 ⊢;have S0:=hY (s3.new q5);have X1:=hY (x3.new q5 x3.lt);have T1:=hY (t3.new q5);have X2:=hY x5;have T2:=hY (t5.new q5);have P:=hY (p1.trans ((q3.trans (q5.mono q3.size)).mono p1.size));have HA:=hY (HE.out.new P.out);clear hwa c4 f4 x4 x3 x5 q3 q4 q5 z4 a8 c8 b8 s1 s3 t3 t5 p1 HE;refine' z8 (fun wx=>Below wa.heap.size wa wx) (VLs (shL (.slice (some ⟨g,0,none⟩) 17 17))) ?F ?hF (by kernel_rfl) (by kernel_rfl) (by kernel_rfl) (Ja _ _).drew ?st ?q
 case hF =>intro xs;refine (zz _ _ _).trans ?_;simp only [zR,Act.put,List.setIfInBounds_toArray,List.set_cons_zero,List.set_cons_succ,Nat.reduceAdd,Jq];exact rfl
 case st =>
  as_aux_lemma =>
  refine Steps.o [] (k:=1) (shS _) (fun xs wx hS hV K hK=>?_) ?_
  · clear hV;go_simp;exact hK.out _ _ (Ja _ _) rfl
  refine Steps.o [] (k:=2) (shS _) (fun xs wx hS hV K hK=>?_) ?_
  · clear hV;exact wantedp (wp_unbox yu (X1.out.new hS X1.out.lt) (hK.out _ _ (Ja _ _) (T1.out.new hS)))
  refine Steps.o [] (k:=3) (shS _) (fun xs wx hS hV K hK=>?_) ?_
  · clear hV;exact wantedp (wp_unbox yu (X2.out.new hS X2.out.lt) (hK.out _ _ (Ja _ _) (T2.out.new hS)))
  refine Steps.o [] (k:=4) (shS _) (fun xs wx hS hV K hK=>?_) ?_
  · clear hV;go_simp;exact hK.out _ _ ((Ja _ _).alloc (Jd _) _) (SlA.blk (cs:=sc [[120]]) (Blk.new _ _ _))
  refine Steps.o [3] (k:=5) (shS _) (fun xs wx hS hV K hK=>?_) ?_
  · have d:SlA wx (xs 3) 1 (sc [[120]]):=hV.1;go_simp;refine (step_mk (N:=100) 5 [[120]] d ⟨by decide,by decide⟩).mono ?_;rintro r w2 ⟨u,rfl,s,p⟩;exact hK.out _ _ p s
  refine Steps.o [] (k:=6) (shS _) (fun xs wx hS hV K hK=>?_) ?_
  · clear hV;go_simp;exact hK.out _ _ ((Ja _ _).alloc (Jd _) _) (SlA.blk (cs:=sc [[120],[121]]) (Blk.new _ _ _))
  refine Steps.o [5] (k:=7) (shS _) (fun xs wx hS hV K hK=>?_) ?_
  · have d:SlA wx (xs 5) 2 (sc [[120],[121]]):=hV.1;go_simp;refine (step_mk (N:=100) 4 [[120],[121]] d ⟨by decide,by decide⟩).mono ?_;rintro r w2 ⟨u,rfl,s,p⟩;exact hK.out _ _ p s
  refine Steps.o [] (k:=8) (shS _) (fun xs wx hS hV K hK=>?_) ?_
  · clear hV;go_simp;refine (step_mk (N:=100) 7 [] (SlA.none _) ⟨by decide,by decide⟩).mono ?_;rintro r w2 ⟨u,rfl,s,p⟩;exact hK.out _ _ p s
  refine Steps.o [] (k:=9) (shS _) (fun xs wx hS hV K hK=>?_) ?_
  · clear hV;go_simp;refine (pair_mk (N:=100) 2 [49,65] [] ⟨by decide,by decide⟩).mono ?_;rintro r w2 ⟨u,rfl,s,p⟩;exact hK.out _ _ p s
  refine Steps.o [] (k:=10) (shS _) (fun xs wx hS hV K hK=>?_) ?_
  · clear hV;go_simp;refine (pair_mk (N:=100) 2 [65] [34,120] ⟨by decide,by decide⟩).mono ?_;rintro r w2 ⟨u,rfl,s,p⟩;exact hK.out _ _ p s
  refine Steps.o [] (k:=11) (shS _) (fun xs wx hS hV K hK=>?_) ?_
  · clear hV;go_simp;refine (pair_mk (N:=100) 3 [97,32,98] [120] ⟨by decide,by decide⟩).mono ?_;rintro r w2 ⟨u,rfl,s,p⟩;exact hK.out _ _ p s
  refine Steps.o [1,2,4,6,7,8,9,10] (k:=12) (shS _) (fun xs wx hS hV K hK=>?_) ?_
  · exact wantedp (wp_sts [xs 1,xs 2,xs 4,xs 6,xs 7,xs 8,xs 9,xs 10] (fc (p:=StV 100 wx) hV.1 (fc hV.2.1 (fc hV.2.2.1 (fc hV.2.2.2.1 (fc hV.2.2.2.2.1 (fc hV.2.2.2.2.2.1 (fc hV.2.2.2.2.2.2.1 (fc hV.2.2.2.2.2.2.2.1 fn)))))))) fun w2 s _ b _=>hK.out _ _ b s)
  refine Steps.o [0,11] (k:=13) (shS _) (fun xs wx hS hV K hK=>?_) ?_
  · exact wantedp (wp_appF (S0.out.new hS) (show StsV 100 8 wx (xs 11) from hV.2.1) (by omega) (by omega) (fun v2 w2 s b=>hK.out _ _ b s) (hs:=(by exact hV.1)))
  refine Steps.o [12] (k:=14) (shS _) (fun xs wx hS hV K hK=>?_) ?_
  · have d:StsV 100 25 wx (xs 12):=hV.1;obtain ⟨g2,o2,c2,e⟩:=d.form (by omega);rw [e] at hK ⊢;go_simp;exact hK.out _ _ (Ja _ _) rfl
  refine Steps.o [] (k:=15) (shS _) (fun xs wx hS hV K hK=>?_) ?_
  · clear hV;go_simp;exact hK.out _ _ (Ja _ _) rfl
  exact Steps.nil
 case q =>
  intro xs wx hS hV;have d12:StsV 100 25 wx (xs 12):=hV 12 (by decide);have d13:xs 13=.int .i64 25:=hV 13 (by decide);have d14:xs 14=.int .i64 0:=hV 14 (by decide);obtain ⟨g2,o2,c2,e⟩:=d12.form (by omega);rw [e] at d12 ⊢;rw [d13,d14];have D:=hY d12;have PX:=hY (P.out.trans (hS.mono P.out.size));have EX:=hY (HA.out.new hS);clear d12 d13 d14 hV hS e S0 X1 T1 X2 T2 P HA;go_wp2_with fail;go_loopw [29] (fun t29 wr=>∃ i:Nat,i≤25∧t29=.int .i64 (i:Int)∧Hid (Below wx.heap.size wx wr)) (fun t29 _=>25 - (intOf t29).toNat)
  case atStart=>exact ⟨0,by omega,rfl,hY (Ja _ _)⟩
  case round =>
   rename World=>wr;obtain ⟨i,hi,rfl,HB⟩:=hrel;have j0:(0:Int)≤(i:Int):=by omega
   rcases Jh i 25 with hin | hin
   · have i0:decide ((i:Int)<25)=true:=dT (by omega);have i1:(i:Int)<25:=by omega
     obtain ⟨T,a,c,b⟩:=(D.out.new HB.out).el hin;go_upto_region 9 with (first | (refine wpList_want (fun K hK=>wp_mid yu a c (hK _ _ ?_));clear hK K) | (refine wpList_want (fun K hK=>wp_box0 yu b.flat fun w4 x4 q4 z4=>hK _ _ ?_);clear hK K))
     rw [Yh];have PB:=hY (HB.out.trans (q4.mono HB.out.size));have E4:=hY (EX.out.new PB.out);have S4:=hY ((b.new q4).mono (show 100≤1048576 by decide));have X4:=hY x4;clear HB x4 q4 z4 b a c D;go_wp2_with (refine wpList_want (fun K hK=>wp_unbox yu X4.out (hK _ _ ?_));clear hK K);refine (kSteps false S4.out E4.out).mono ?_;rintro r w5 ⟨rfl,p5⟩;have X5:=hY (X4.out.new p5 X4.out.lt);go_wp2_with (refine wpList_want (fun K hK=>wp_unbox yu X5.out (hK _ _ ?_));clear hK K);refine (kSteps true (S4.out.new p5) (E4.out.new p5)).mono ?_;rintro r w6 ⟨rfl,p6⟩;go_wp2_with fail;go_roundw
     case rel=>exact ⟨i+1,by omega,by go_num,hY (PB.out.trans ((p5.trans (p6.mono p5.size)).mono PB.out.size))⟩
     case measure=>simp [intOf];omega
   · have i0:decide ((i:Int)<25)=false:=dF (by omega);have i1:¬ (i:Int)<25:=by omega
     have EY:=EX.out.new HB.out;go_wp2_with fail;refine (zU wr EY.t EY.v EY.m).mono ?_;rintro r w6 ⟨rfl,p6⟩;go_wp2_with fail;go_ret;exact ⟨rfl,PX.out.trans ((HB.out.trans (p6.mono HB.out.size)).mono PX.out.size)⟩
theorem prC_len (l:List Ck.Pr):(yV l).length=l.length*2:=by
 induction l with
 | nil=>rfl
 | cons a l ih=>rw [yV,Ke,Jf,←yV,ih,Ji];show 2+_=_;omega
theorem prC_one (l:List Ck.Pr):∀ u∈yV l,u.oneCell'=true:=fun u hu=>by obtain ⟨p,-,hu⟩:=List.mem_flatMap.1 hu;simp only [prL,Kn,Kl,or_false] at hu;rcases hu with rfl | rfl <;> rfl
theorem st_full {N g q n:Nat} {w:World} {T:List Value} {A:Option Addr} (b:StV N w (.agg T.toArray)) (r:w.rangeAt g q T) (l:T.length=10) (h9:w.cell? ⟨g,q+9,none⟩=some (.slice A n n)) (hA:A=none∨0<n) (h8:w.cell? ⟨g,q+8,none⟩=some (.slice none 0 0)):∃ s vp vw,T.toArray=(ZN ⟨s,vp,vw,.slice none 0 0,.slice A n n⟩).toArray∧(⟨s,vp,vw,.slice none 0 0,.slice A n n⟩:SM).Ok w∧StLe N s∧s.docs=[]∧Sl w.heap.size w 9 1 (.slice A n n) s.exec.length (sc s.exec):=by
 obtain ⟨⟨s,vp,vw,vd,ve⟩,e,h1,h2⟩:=b;injection e with e;have eT:T=ZN ⟨s,vp,vw,vd,ve⟩:=by have:=congrArg Array.toList e;simpa using this
 subst eT;have e9:ve=.slice A n n:=Jc ((r 9 ve rfl).symm.trans h9);have e8:vd=.slice none 0 0:=Jc ((r 8 vd rfl).symm.trans h8);subst e9 e8;have hd:s.docs.length=0:=by obtain ⟨B,c,e⟩:=h1.cd.form;injection e with _ e _;exact e.symm
 obtain ⟨B,c,e⟩:=h1.ce.form;have en:s.exec.length=n:=by injection e with _ e _;exact e.symm
 refine ⟨s,vp,vw,rfl,h1,h2,Ki hd,.inr ⟨h1.ce,⟨A,by rw [en]⟩,fun p hp=>?_,by rw [Zb,Kq]⟩⟩;rcases hA with rfl | hn
 · cases hp
 · have hx:(sc s.exec)[0]?=some ((sc s.exec)[0]'(by rw [Zb];omega)):=Jk _;obtain ⟨g',o',c',e',hc⟩:=h1.ce.get hx;injection e' with e' _ _;subst e';injection hp with hp;exact hp ▸ Je _ _ hc
theorem fields_any (w:World) (E:Env w):Calls Tryz.prog 28 #[] w (Yes w):=by
 have E:=hY E;go_enter Tryz.func28,Tryz.ntmps28;go_upto_region 2 with fail;go_name_world W hW;have HC:Hid (∀ a,a<23→∃ f,W.cell? ⟨w.heap.size,a,none⟩=some (.func (.func f) #[] #[])∧Turns f):=hY (fun a ha=>by rw [←hW];have hl:a<turnsL.length:=ha;refine ⟨turnsL[a],?_,turns_all _ (Jl hl)⟩;rw [(Blk.new _ _ _).cell];show ((turnsL.map fun f=>Value.func (.func f) #[] #[]).toArray)[a]?=_;rw [List.getElem?_toArray,List.getElem?_map,Jk hl];rfl);have BW:Below w.heap.size w W:=by rw [←hW];exact (Ja _ _).alloc (Jd _) _
 obtain ⟨G,hG⟩:∃ G,w.heap.size=G:=⟨_,rfl⟩
 rw [hG] at HC ⊢;replace E:=hY (E.out.new BW);have P:=hY BW;clear hG hW BW;go_wp2_with fail;refine (rights_x _).mono ?_;rintro r w1 ⟨g,rfl,⟨s1,rx⟩,p1⟩;have S:=hY s1;have RX:=hY rx;replace E:=hY (E.out.new p1);replace P:=hY (P.out.trans (p1.mono P.out.size));replace HC:Hid (∀ a,a<23→∃ f,w1.cell? ⟨G,a,none⟩=some (.func (.func f) #[] #[])∧Turns f):=hY (fun a ha=>by obtain ⟨f,h1,h2⟩:=HC.out a ha;exact ⟨f,(p1.cell (p:=⟨G,a,none⟩) (Je _ _ h1)).trans h1,h2⟩);clear p1 s1 rx;go_wp2_with fail;go_loopw [3,4,5,6] (fun t3 _ _ _ wr=>∃ i:Nat,i≤17∧t3=.int .i64 (i:Int)∧Hid (Below w1.heap.size w1 wr)) (fun t3 _ _ _ _=>17 - (intOf t3).toNat)
 case atStart=>exact ⟨0,by omega,rfl,hY (Ja _ _)⟩
 case round =>
  rename World=>w2;obtain ⟨i,hi,rfl,P2⟩:=hrel;have i0:(0:Int)≤(i:Int):=by omega
  rcases Jh i 17 with hin | hin
  · have i1:decide ((i:Int)<17)=true:=dT (by omega);have i2:(i:Int)<17:=by omega
    go_wp2_with fail;go_loopw [4,5,6] (fun t4 _ _ wr=>∃ a:Nat,a≤23∧t4=.int .i64 (a:Int)∧Hid (Below w2.heap.size w2 wr)) (fun t4 _ _ _=>23 - (intOf t4).toNat)
    case atStart=>exact ⟨0,by omega,rfl,hY (Ja _ _)⟩
    case round =>
     rename World=>w3;obtain ⟨a,ha,rfl,P3⟩:=hrel;have a0:(0:Int)≤(a:Int):=by omega
     rcases Jh a 23 with han | han
     · have a1:decide ((a:Int)<23)=true:=dT (by omega);have a2:(a:Int)<23:=by omega
       go_wp2_with fail;go_loopw [5,6] (fun t5 _ wr=>∃ b:Nat,b≤23∧t5=.int .i64 (b:Int)∧Hid (Below w3.heap.size w3 wr)) (fun t5 _ _=>23 - (intOf t5).toNat)
       case atStart=>exact ⟨0,by omega,rfl,hY (Ja _ _)⟩
       case round =>
        rename World=>w4;obtain ⟨b,hb,rfl,P4⟩:=hrel;have b0:(0:Int)≤(b:Int):=by omega
        rcases Jh b 23 with hbn | hbn
        · have b1:decide ((b:Int)<23)=true:=dT (by omega);have b2:(b:Int)<23:=by omega
          have Q:=hY (P2.out.trans ((P3.out.trans (P4.out.mono P3.out.size)).mono P2.out.size));replace E:=hY (E.out.new Q.out);obtain ⟨f,hf,en,tf⟩:=HC.out a han;obtain ⟨f2,hf2,en2,tf2⟩:=HC.out b hbn;replace hf:=(Q.out.cell (p:=⟨G,a,none⟩) (Je _ _ hf)).trans hf;replace hf2:=(Q.out.cell (p:=⟨G,b,none⟩) (Je _ _ hf2)).trans hf2;obtain ⟨T,rT,lT,sT⟩:=(S.out.new Q.out).el hin;rw [Jq] at rT;obtain ⟨A,n,r9,hA,r8⟩:=RX.out i hin;replace r9:=(Q.out.cell (p:=⟨g,i*10+9,none⟩) (Je _ _ r9)).trans r9;replace r8:=(Q.out.cell (p:=⟨g,i*10+8,none⟩) (Je _ _ r8)).trans r8;obtain ⟨s,vp,vw,eT,hok,hle,hdo,hse⟩:=st_full sT rT lT r9 hA r8;obtain ⟨Aw,kw,ew⟩:∃ A c,vw=.slice A s.words.length c:=hok.cw.form;obtain ⟨Ap,kp,ep⟩:∃ A c,vp=.slice A s.pairs.length c:=hok.cp.form;subst ew ep;have hc1:s.words.length≤100:=by have:=hle.1;omega
          have hc2:s.pairs.length≤100:=by have:=hle.1;omega
          replace eT:=hY eT;have HOK:=hY hok;have HLE:=hY hle;have HDO:=hY hdo;have HSE:=hY hse;clear hok hle hdo hse;have TF:=hY tf;have TF2:=hY tf2;have HF:=hY hf;have HF2:=hY hf2;have EN:=hY en;have EN2:=hY en2;clear en en2;clear hf hf2 tf tf2;go_upto_region 13 with (first | (refine wpList_want (fun K hK=>wp_mid yu rT lT (hK _ _ ?_));clear hK K) | (refine wpList_want (fun K hK=>wp_box0 yu sT.flat fun w5 X q5 z5=>hK _ _ ?_);clear hK K))
          rw [Yh];clear rT lT sT r9 r8 hA;rw [eT.out] at X;obtain ⟨T5,e5,-,bx⟩:=X;injection e5 with e5;subst e5;replace z5:=hY z5;have hw5:w4.heap.size≤w5.heap.size:=q5.size;have own5:Hid ((w5.alloc (.cells #[] 9)).ownsRow w4.heap.size 9 1 (.slice (some ⟨w5.heap.size,0,none⟩) 0 0) 0 []):=hY (World.ownsRow_lit w5 #[] 0 hw5 (by unfold maxLen;omega) rfl);have sw5:Hid (SlA (w5.alloc (.cells #[] 9)) (.slice Aw s.words.length kw) s.words.length (sc s.words)):=hY (HOK.out.cw.new (q5.alloc hw5 _));have c7:(w5.alloc (.cells #[] 9)).cell? ⟨w4.heap.size,7,none⟩=some (.slice Aw s.words.length kw):=((bx.alloc _).cell 7).trans rfl;go_upto_region 14 with (at_builtin;refine zp rfl _ _ _ rfl Yz w4.heap.size _ _ _ rfl own5.out (.slice Aw s.words.length kw) s.words.length (sc s.words) rfl sw5.out (by rw [Zb,Kq]) (zad _) (by omega) (by omega) (Ja _ _) (by rw [Jb];omega) ?_;intro v1 w6 ho1 hb hg hat;have bx6:=blk_keep (bx.alloc (.cells #[] 9)) hg (fun q=>by have q1:w5.heap.size=w4.heap.size:=Jc q;have q2:=z5.out;omega);have c8:w6.cell? ⟨w4.heap.size,7,none⟩=some _:=(bx6.cell 7).trans rfl;have f8:=bx6.frozen 7;rw [Jq,Kx] at ho1;obtain ⟨A1,k1,rfl⟩:=zc ho1)
          obtain ⟨w7,hw7⟩:∃ y,w6.setCell ⟨w4.heap.size,7,none⟩ (.slice A1 s.words.length k1)=y:=⟨_,rfl⟩
          have gr:=yK w6 ⟨w4.heap.size,7,none⟩ (.slice A1 s.words.length k1);have B7:Below w4.heap.size w4 w7:=by rw [←hw7];exact ((q5.alloc hw5 _).trans hb).setCell (Jd _) _
          have bx7:Blk w7 w4.heap.size 41 (ZN ⟨s,.slice Ap s.pairs.length kp,(.slice A1 s.words.length k1),.slice none 0 0,.slice A n n⟩).toArray:=by rw [←hw7];have q:=bx6.set_ 7 (.slice A1 s.words.length k1);rw [List.setIfInBounds_toArray] at q;exact q
          have ow7:w7.ownsRow w4.heap.size 9 1 (.slice A1 s.words.length k1) s.words.length (sc s.words):=by rw [←hw7];exact ho1.kept (hw7 ▸ gr) (Sl.ne (.inl ho1) bx6 (Jd _) (by decide))
          rw [hw7];clear gr hw7 hg hat ho1 hb c8 f8 bx6 own5 sw5 c7 bx q5 z5 hw5;have hw7:w4.heap.size≤w7.heap.size:=B7.size;have lt7:=hY bx7.lt;have own7:Hid ((w7.alloc (.cells #[] 61)).ownsRow w4.heap.size 61 2 (.slice (some ⟨w7.heap.size,0,none⟩) 0 0) 0 []):=hY (World.ownsRow_lit w7 #[] 0 hw7 (by unfold maxLen;omega) rfl);have sp7:Hid (SlA (w7.alloc (.cells #[] 61)) (.slice Ap s.pairs.length kp) s.pairs.length (yV s.pairs)):=hY (HOK.out.cp.new (B7.alloc hw7 _));have c7:(w7.alloc (.cells #[] 61)).cell? ⟨w4.heap.size,5,none⟩=some (.slice Ap s.pairs.length kp):=((bx7.alloc _).cell 5).trans rfl;go_upto_region 15 with (at_builtin;refine zp rfl _ _ _ rfl lpK w4.heap.size _ _ _ rfl own7.out (.slice Ap s.pairs.length kp) s.pairs.length (yV s.pairs) rfl sp7.out (prC_len _) (prC_one _) (by omega) (by omega) (Ja _ _) (by rw [Jb];omega) ?_;intro v2 w8 ho2 hb hg hat;have bx8:=blk_keep (bx7.alloc (.cells #[] 61)) hg (fun q=>by have q1:w7.heap.size=w4.heap.size:=Jc q;have q2:=lt7.out;omega);have c8:w8.cell? ⟨w4.heap.size,5,none⟩=some _:=(bx8.cell 5).trans rfl;have f8:=bx8.frozen 5;rw [Jq,Kx] at ho2;obtain ⟨A2,k2,rfl⟩:=zc ho2)
          have K:=BoxK.fin (m:=⟨s,.slice Ap s.pairs.length kp,(.slice A1 s.words.length k1),.slice none 0 0,.slice A n n⟩) bx8 ((B7.alloc hw7 _).trans hb) (Jd _) (s':=s) (vp':=(.slice A2 s.pairs.length k2)) (vw':=(.slice A1 s.words.length k1)) (vd':=.slice none 0 0) (ve':=.slice A n n) (.inl ho2) (Sl.kept (.inl (ow7.alloc _)) hg hb (Sl.oty (.inl (ow7.alloc _)) (.inr ⟨rfl,own7.out⟩) (by decide))) (by rw [HDO.out];exact sl_nil) (HSE.out.new ((B7.alloc hw7 _).trans hb)) (fun p hp e=>by have q1:=(ow7.lt p hp).1;have q2:=HSE.out.lt (Jd _) p e;omega) nil_dn HLE.out 5 (.slice A2 s.pairs.length k2) rfl;obtain ⟨w9,hw9⟩:∃ y,w8.setCell ⟨w4.heap.size,5,none⟩ (.slice A2 s.pairs.length k2)=y:=⟨_,rfl⟩
          rw [hw9] at K ⊢;clear hw9 ho2 hb hg hat bx8 c8 f8 ow7 own7 sp7 c7 bx7 lt7 B7 hw7 HOK HLE HDO HSE hc1 hc2;obtain ⟨m,hm⟩:∃ m,(⟨s,.slice A2 s.pairs.length k2,.slice A1 s.words.length k1,.slice none 0 0,.slice A n n⟩:SM)=m:=⟨_,rfl⟩
          rw [hm] at K;clear hm;have K:=hY K;have hf:=(K.out.bl.cell (p:=⟨G,a,none⟩) (Je _ _ HF.out)).trans HF.out;have en:=EN.out;go_wp2_with fail;refine (TF.out _ _ _ _ _ K.out ⟨by decide,by decide⟩).mono ?_;rintro r w10 ⟨rfl,m2,K2⟩;clear en hf K;replace K2:=hY K2;have hf2:=(K2.out.bl.cell (p:=⟨G,b,none⟩) (Je _ _ HF2.out)).trans HF2.out;have en2:=EN2.out;go_wp2_with fail;refine (TF2.out _ _ _ _ _ K2.out ⟨by decide,by decide⟩).mono ?_;rintro r w11 ⟨rfl,m3,K3⟩;clear en2 hf2 K2;replace K3:=hY K3;have X3:Box w11 w4.heap.size 41 10 (.agg (ZN m3).toArray):=⟨_,rfl,rfl,K3.out.bx⟩
          have y0:(0:Int)≤(a:Int)+(b:Int):=by omega
          have y1:(a:Int)+(b:Int)<100:=by omega
          replace X3:=hY X3;go_wp2_with (refine wpList_want (fun K hK=>wp_unbox yu X3.out (hK _ _ ?_));clear hK K);refine (kSteps _ (K3.out.stv.mono (by decide)) (E.out.new K3.out.bl)).mono ?_;rintro r w12 ⟨rfl,p12⟩;go_wp2_with fail;go_roundw
          case rel=>exact ⟨b+1,by omega,by go_num,hY (P4.out.trans ((K3.out.bl.trans (p12.mono K3.out.bl.size)).mono P4.out.size))⟩
          case measure=>simp [intOf];omega
        · have b1:decide ((b:Int)<23)=false:=dF (by omega);have b2:¬ (b:Int)<23:=by omega
          go_wp2_with fail;go_roundw
          case rel=>exact ⟨a+1,by omega,by go_num,hY (P3.out.trans (P4.out.mono P3.out.size))⟩
          case measure=>simp [intOf];omega
     · have a1:decide ((a:Int)<23)=false:=dF (by omega);have a2:¬ (a:Int)<23:=by omega
       go_wp2_with fail;go_roundw
       case rel=>exact ⟨i+1,by omega,by go_num,hY (P2.out.trans (P3.out.mono P2.out.size))⟩
       case measure=>simp [intOf];omega
  · have i1:decide ((i:Int)<17)=false:=dF (by omega);have i2:¬ (i:Int)<17:=by omega
    go_wp2_with fail;go_ret;exact ⟨rfl,P.out.trans (P2.out.mono P.out.size)⟩
theorem lawKnown (w:World) (hT:Tabs w) (hg:ErrVar w) (hm:Maxl w):Calls Tryz.prog 9 #[] w fun e w'=>e=.returned (.bool true)∧Below w.heap.size w w':=by have E:=hY (⟨hT,hg,hm⟩:Env w);clear hT hg hm;go_enter Tryz.func9,Tryz.ntmps9;go_wp2_with fail;refine (shown_any _ E.out).mono ?_;rintro r w1 ⟨rfl,p1⟩;replace E:=hY (E.out.new p1);go_wp2_with fail;refine (fields_any _ E.out).mono ?_;rintro r w2 ⟨rfl,p2⟩;replace E:=hY (E.out.new p2);go_wp2_with fail;refine (numbers_any _ E.out).mono ?_;rintro r w3 ⟨rfl,p3⟩;replace E:=hY (E.out.new p3);go_wp2_with fail;refine (long_any _ E.out).mono ?_;rintro r w4 ⟨rfl,p4⟩;replace E:=hY (E.out.new p4);go_wp2_with fail;refine (names_any _ E.out).mono ?_;rintro r w5 ⟨rfl,p5⟩;replace E:=hY (E.out.new p5);go_wp2_with fail;refine (docs_any _ E.out).mono ?_;rintro r w6 ⟨rfl,p6⟩;replace E:=hY (E.out.new p6);go_wp2_with fail;refine (stages_any _ E.out).mono ?_;rintro r w7 ⟨rfl,p7⟩;go_wp2_with fail;go_ret;exact ⟨rfl,p1.trans ((p2.trans ((p3.trans ((p4.trans ((p5.trans ((p6.trans (p7.mono p6.size)).mono p5.size)).mono p4.size)).mono p3.size)).mono p2.size)).mono p1.size)⟩
end Go.Proofs.YtdaejggcjjdhkaaGreatDoor
