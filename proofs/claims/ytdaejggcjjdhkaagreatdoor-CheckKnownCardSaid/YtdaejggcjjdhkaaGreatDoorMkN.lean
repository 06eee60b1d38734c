/- strataref18: stage, File, walked. -/
import Derived.Test.YtdaejggcjjdhkaaGreatDoorMkJ
import Derived.Test.YtdaejggcjjdhkaaGreatDoorRelyU
import Derived.Test.YtdaejggcjjdhkaaGreatDoorCkV
import Derived.Test.YtdaejggcjjdhkaaGreatDoorMkB
import Derived.Test.YtdaejggcjjdhkaaGreatDoorCkZe
import Derived.Test.YtdaejggcjjdhkaaGreatDoorMkI
set_option maxHeartbeats 4000000
set_option maxRecDepth 100000
namespace Go.Proofs.YtdaejggcjjdhkaaGreatDoor
open Go Go.RowKit
theorem XX (f:FM) (w:World) (hok:f.Ok w) (hsm:f.fl.Small) (i:Nat) (hi:i<f.stages.length) {x:Nat} (H:Hid (Ck.stageL f.escape ((f.stages.map GM.name).take i) f.stages[i].sg=x)):Calls Tryz.prog 36 #[.agg #[.int .u8 (f.escape.toNat:Int),f.va,f.vg],.int .i64 (i:Int)] w fun r w'=>r=.returned (.int .i64 (x:Int))∧Below w.heap.size w w':=by
 obtain ⟨e,va,args,vg,stages⟩:=f;have hca:StsA w va args:=hok.a;have hcg:GsA w vg stages:=hok.g;dsimp only at hi H ⊢;obtain ⟨hsa,hsg,hsn⟩:=hsm;clear hok;obtain ⟨Aa,ka,rfl⟩:=hca.1.form;obtain ⟨Ag,kg,rfl⟩:=hcg.1.form;have heb:e.toNat<256:=Jm _;have hal:=(Ja w.heap.size w).alloc (Jd _) (.cells #[.int .u8 (e.toNat:Int),.slice Aa args.length ka,.slice Ag stages.length kg] 25);have hk:=Blk.new w 25 #[.int .u8 (e.toNat:Int),.slice Aa args.length ka,.slice Ag stages.length kg];obtain ⟨w1,hw1⟩:∃ x,w.alloc (.cells #[.int .u8 (e.toNat:Int),.slice Aa args.length ka,.slice Ag stages.length kg] 25)=x:=⟨_,rfl⟩
 rw [hw1] at hal hk;have HW1:=hY hw1;have HAL:=hY hal;have HK:=hY hk;have HA1:=hY (hca.new hal);have HG1:=hY (hcg.new hal);have HSA:=hY hsa;have HSG:=hY hsg;clear hw1 hal hk hca hcg hsa hsg;have hsn2:stages.length≤1050000:=by have h:=hsn;simp only [FM.fl,Jo] at h;omega
 clear hsn;have hil:(i:Int)<(stages.length:Int):=by omega
 have hin0:(0:Int)≤(i:Int):=by omega
 obtain ⟨g,o,c,G,A,k,hv,hG,hGv,hGs,c0,c1,c2,c3⟩:=z7 HG1.out hi;injection hv with hA _ hcc;subst hA hcc;have hsmall:=HSG.out _ (List.mem_map.2 ⟨_,Jl hi,rfl⟩);rw [hG] at H hsmall;obtain ⟨hbl,hnl,_⟩:=hsmall;have hbl:G.base.length≤1050000:=hbl;have hnl:G.name.length≤1050000:=hnl;obtain ⟨N,hN⟩:∃ N,Hid ((stages.map GM.name).take i=N):=⟨_,hY rfl⟩
 rw [hN.out] at H;obtain ⟨base,hba⟩:∃ b,G.base=b:=⟨_,rfl⟩
 obtain ⟨name,hna⟩:∃ b,G.name=b:=⟨_,rfl⟩
 obtain ⟨line,hli⟩:∃ b,G.line=b:=⟨_,rfl⟩
 obtain ⟨nm,hms⟩:∃ b,G.ms.length=b:=⟨_,rfl⟩
 have HSP:Hid (Ck.stageL e N ⟨line,base,name,G.ms.map SM.s⟩=x):=hY (by rw [←hba,←hna,←hli];exact H.out);rw [hba] at c1 hbl;rw [hna] at c2 hnl;rw [hli] at c0;rw [hms] at c3;clear hGv hGs hG H hba hna hli hms;obtain ⟨zb,ezb⟩:∃ b,(bs base).toList.isEmpty=b:=⟨_,rfl⟩
 obtain ⟨zn,ezn⟩:∃ b,(bs name).toList.isEmpty=b:=⟨_,rfl⟩
 obtain ⟨c6,h6⟩:∃ b,Hid ([base,name].any Ck.badT=b):=⟨_,hY rfl⟩
 obtain ⟨n,hn⟩:∃ b,Hid (Ck.wordL e base=b):=⟨_,hY rfl⟩
 obtain ⟨sg,hsg⟩:∃ b,Hid (Ck.stageR name=b):=⟨_,hY rfl⟩
 have HX:Hid (x=if c6 then 6 else if zb then 2 else if n≠0 then n else if (!zn&&!sg) then 8 else if (!zn&&decide (name∈N)) then 11 else 0):=hY (by
  rw [←HSP.out,Ck.stageL];have g6:(Ck.badT base||Ck.badT name)=c6:=by rw [←h6.out];simp
  have gb:base=[]↔zb=true:=by rw [←ezb,zh,List.isEmpty_iff]
  have gn:name≠[]↔(!zn)=true:=by rw [←ezn,zh,Bool.not_eq_true',Ck.emp]
  dsimp only;rw [g6,hn.out,hsg.out];exact Ck.if_congr Iff.rfl rfl (Ck.if_congr gb rfl (Ck.if_congr Iff.rfl rfl (Ck.if_congr (by rw [Jy,Bool.not_eq_true' (b:=sg),gn]) rfl (Ck.if_congr (by rw [Jy,Jj,gn]) rfl rfl)))))
 clear HSP;go_enter Tryz.func36,Tryz.ntmps36;go_upto_region 1 with fail;rw [HW1.out];clear HW1;have b2:w1.cell? ⟨w.heap.size,2,none⟩=some (.slice (some ⟨g,o,none⟩) stages.length kg):=HK.out.cell 2;go_upto_region 2 with fail;have HS2:=hY (Blk.new w1 53 #[.int .i64 line,.string (bs base),.string (bs name),.slice A nm k]);have hb2:=(Ja w1.heap.size w1).alloc (Jd _) (.cells #[.int .i64 line,.string (bs base),.string (bs name),.slice A nm k] 53);obtain ⟨Z,hZ⟩:∃ Z,w1.heap.size=Z:=⟨_,rfl⟩
 have HBA:=hY (za HAL.out hb2 HAL.out.size);have HG2:=hY (HG1.out.new hb2);have HK2:=hY (HK.out.below hb2 HK.out.lt);obtain ⟨w2,hw2⟩:∃ y,w1.alloc (.cells #[.int .i64 line,.string (bs base),.string (bs name),.slice A nm k] 53)=y:=⟨_,rfl⟩
 rw [hw2] at HS2 HBA HG2 HK2;rw [hZ] at HS2;rw [hw2,hZ];clear hw2 hb2 b2 c0 c1 c2 c3 HAL HK HA1;have d1:w2.cell? ⟨Z,1,none⟩=some (.string (bs base)):=HS2.out.cell 1;have d2:w2.cell? ⟨Z,2,none⟩=some (.string (bs name)):=HS2.out.cell 2;have hb3:=(Ja w2.heap.size w2).alloc (Jd _) (.cells #[.string (bs base),.string (bs name)] 9);have HBB:=hY (za HBA.out hb3 HBA.out.size);have HSL:Hid (SlA (w2.alloc (.cells #[.string (bs base),.string (bs name)] 9)) (.slice (some ⟨w2.heap.size,0,none⟩) 2 2) 2 (sc [base,name])):=hY (.inr ⟨w2.heap.size,0,2,rfl,fun j u hu=>by rw [Jq,(Blk.new w2 9 #[.string (bs base),.string (bs name)]).cell j,←hu];simp [sc]⟩);have HUN:=hY (YK _ [base,name] (w2.alloc (.cells #[.string (bs base),.string (bs name)] 9)) HSL.out (fun t ht=>by simp only [Kn,Kl,or_false] at ht;rcases ht with rfl | rfl <;> omega) (by simp) h6);have HG3:=hY (HG2.out.new hb3);have HK3:=hY (HK2.out.below hb3 HK2.out.lt);have HS3:=hY (HS2.out.below hb3 HS2.out.lt);clear hb3;go_wp2_with fail;refine HUN.out.mono ?_;rintro a wv ⟨rfl,hwv⟩;clear HUN HSL d1 d2;obtain ⟨w3,hw3⟩:∃ y,w2.alloc (.cells #[.string (bs base),.string (bs name)] 9)=y:=⟨_,rfl⟩
 rw [hw3] at HBB HG3 HK3 HS3 hwv;subst hwv;clear hw3 HS2 HG2 HK2 HBA;have d1:w3.cell? ⟨Z,1,none⟩=some (.string (bs base)):=HS3.out.cell 1;have d2:w3.cell? ⟨Z,2,none⟩=some (.string (bs name)):=HS3.out.cell 2;have b0:w3.cell? ⟨w.heap.size,0,none⟩=some (.int .u8 (e.toNat:Int)):=HK3.out.cell 0;cases c6 with
 | true =>go_wp2_with fail;go_ret;exact ⟨by rw [HX.out];rfl,HBB.out⟩
 | false =>
 cases zb with
 | true =>go_wp2_with fail;go_ret;exact ⟨by rw [HX.out];rfl,HBB.out⟩
 | false =>
 have HWD:=hY (ZX base (by omega) e w3 hn);go_wp2_with fail;refine HWD.out.mono ?_;rintro a w4 ⟨rfl,hb4⟩;have HB4:=hY (za HBB.out hb4 HBB.out.size);have HG4:=hY (HG3.out.new hb4);have HK4:=hY (HK3.out.below hb4 HK3.out.lt);have HS4:=hY (HS3.out.below hb4 HS3.out.lt);clear hb4 HWD HBB HG3 HK3 HS3 d1 d2 b0;have d2:w4.cell? ⟨Z,2,none⟩=some (.string (bs name)):=HS4.out.cell 2;rcases Ju n with hn0 | hn0
 · subst hn0;obtain ⟨b8,h8⟩:∃ b,Hid ((!zn&&!sg)=b):=⟨_,hY rfl⟩
   have HX2:Hid (x=if b8 then 8 else if (!zn&&decide (name∈N)) then 11 else 0):=hY (by rw [HX.out,h8.out];rfl);clear HX;go_upto_region 9 with fail;go_cut [38] from 30 to 37 (fun sy wx=>sy=.bool b8∧w4=wx)
   case first =>
    as_aux_lemma =>
    cases zn with
    | true =>go_wp2_with fail;go_meet;exact ⟨by rw [←h8.out];rfl,by trivial⟩
    | false =>
     go_wp2_with fail;refine (Yu name (by omega) w4 hsg).mono ?_;rintro a wv ⟨rfl,rfl⟩;cases sg <;> (
      go_wp2_with fail;go_meet;exact ⟨by rw [←h8.out];rfl,by trivial⟩)
   case rest =>
    obtain ⟨rfl,rfl⟩:=hcut;clear h8 d2;cases b8 with
    | true =>go_wp2_with fail;go_ret;exact ⟨by rw [HX2.out];rfl,HB4.out⟩
    | false =>
    have HNL:Hid (N.length=i):=hY (by rw [←hN.out,Kt,Jo];omega);have H0:Hid ((!zn&&decide (name∈N.take 0))=false):=hY (by simp);go_wp2_with fail;go_loopw [7] (fun t7 wr=>∃ k:Nat,k≤i∧t7=.int .i64 (k:Int)∧Hid ((!zn&&decide (name∈N.take k))=false)∧Hid (Below w4.heap.size w4 wr)) (fun t7 _=>i - (intOf t7).toNat)
    case atStart=>exact ⟨0,by omega,rfl,H0,hY (Ja _ _)⟩
    case round =>
     clear H0;rename World=>wr;obtain ⟨q,hq,rfl,HR,HB⟩:=hrel;have j0:(0:Int)≤(q:Int):=by omega
     have HBW:=hY (za HB4.out HB.out HB4.out.size);rcases Jh q i with hqi | hqi
     · have i0:decide ((q:Int)<(i:Int))=true:=dT (by omega);have i0n:decide (q<i)=true:=dT (by omega);have i1:(q:Int)<(stages.length:Int):=by omega
       have hql:q<stages.length:=by omega
       obtain ⟨g2,o2,c2,G2,A2,k2,hv2,hG2,_,_,_,_,c22,_⟩:=z7 (HG4.out.new HB.out) hql;injection hv2 with hA2 _ hcc2;injection hA2 with hA2;injection hA2 with q1 q2 _;subst q1 q2 hcc2;have HSN:Hid (N.take (q+1)=N.take q++[G2.name]):=hY (by
        have e1:N[q]'(by rw [HNL.out];exact hqi)=G2.name:=by simp only [←hN.out,List.getElem_take,List.getElem_map,hG2]
        rw [List.take_add_one,Jk (by rw [HNL.out];exact hqi),e1];rfl)
       obtain ⟨nk,hnk⟩:∃ y,G2.name=y:=⟨_,rfl⟩
       rw [hnk] at c22 HSN;clear hG2 hnk;have d2:wr.cell? ⟨Z,2,none⟩=some (.string (bs name)):=(HS4.out.below HB.out HS4.out.lt).cell 2;have b2:wr.cell? ⟨w.heap.size,2,none⟩=some (.slice (some ⟨g,o,none⟩) stages.length kg):=(HK4.out.below HB.out HK4.out.lt).cell 2;obtain ⟨y,ey⟩:∃ b,((bs nk).toList==(bs name).toList)=b:=⟨_,rfl⟩
       have HY:Hid (decide (name∈N.take (q+1))=(decide (name∈N.take q)||y)):=hY (by rw [HSN.out,←ey,zh,zh,Jz,Bool.or_eq_true,Jj,Jj,Jx,Km,Jv];exact ⟨fun h=>h.imp id Eq.symm,fun h=>h.imp id Eq.symm⟩);have HBD:=hY HB.out.drew;have HBE:=hY HBW.out.drew;go_upto_region 14 with fail;cases zn with
       | true =>
        go_region
        all_goals (
         go_wp2_with fail;go_roundw
         case rel=>exact ⟨q+1,by omega,by go_num,hY rfl,HBD⟩
         case measure=>simp [intOf];omega)
       | false =>
        have hR:decide (name∈N.take q)=false:=HR.out;have HRR:=hY hR;clear hR HR;cases y with
        | false =>
         go_region
         all_goals (
          go_wp2_with fail;go_roundw
          case rel=>exact ⟨q+1,by omega,by go_num,hY (by rw [HY.out,HRR.out];rfl),HBD⟩
          case measure=>simp [intOf];omega)
        | true =>
         have HF:Hid (x=11):=hY (by have h1:name∈N.take (q+1):=of_decide_eq_true (by rw [HY.out,Bool.or_true]);rw [HX2.out,decide_eq_true (List.mem_of_mem_take h1)];rfl);go_region
         all_goals (
          go_wp2_with fail;go_ret;exact ⟨by rw [HF.out];rfl,HBE.out⟩)
     · have i0:decide ((q:Int)<(i:Int))=false:=dF (by omega);have i0n:decide (q<i)=false:=dF (by omega);have HF:Hid (x=0):=hY (by have h:=HR.out;rw [List.take_of_length_le (by rw [HNL.out];omega)] at h;rw [HX2.out,h];rfl);go_wp2_with fail;go_ret;exact ⟨by rw [HF.out];rfl,HBW.out⟩
 · have k0:((n:Int)==0)=false:=bF (by omega);have k1:(n==0)=false:=bF (by omega);have k2:((n:Int) != 0)=true:=by rw [bne,k0];rfl
   have HF:Hid (x=n):=hY (by rw [HX.out,if_neg (by simp),if_neg (by simp),if_pos (by omega)]);go_wp2_with fail;go_ret;exact ⟨by rw [HF.out];rfl,HB4.out⟩
def Vc:Option (Nat × Int)→Int × Int
 | none=>(0,0)
 | some (n,l)=>(n,l)
theorem Vg (c k:UInt8):((c.toNat:Int)==(k.toNat:Int))=(c==k):=by have:=zO c k;rw [bne] at this;cases h:((c.toNat:Int)==(k.toNat:Int)) <;> cases h2:(c==k) <;> simp_all
theorem Xb (f:FM) (w:World) (hok:f.Ok w) (hsm:f.fl.Small) {x:Option (Nat × Int)} (H:Hid (Ck.fileL f.fl=x)):Calls Tryz.prog 11 #[.agg #[.int .u8 (f.escape.toNat:Int),f.va,f.vg]] w fun r w'=>r=.returned (.tuple #[.int .i64 (Vc x).1,.int .i64 (Vc x).2])∧Below w.heap.size w w':=by
 have hcount:=yg f;have HSM:=hY hsm;obtain ⟨e,va,args,vg,stages⟩:=f;have hca:StsA w va args:=hok.a;have hcg:GsA w vg stages:=hok.g;dsimp only at H hcount HSM ⊢;obtain ⟨hsa,hsg,hsn⟩:=hsm;clear hok;obtain ⟨Aa,ka,rfl⟩:=hca.1.form;obtain ⟨Ag,kg,rfl⟩:=hcg.1.form;have heb:e.toNat<256:=Jm _;have hal:=(Ja w.heap.size w).alloc (Jd _) (.cells #[.int .u8 (e.toNat:Int),.slice Aa args.length ka,.slice Ag stages.length kg] 25);have hk:=Blk.new w 25 #[.int .u8 (e.toNat:Int),.slice Aa args.length ka,.slice Ag stages.length kg];obtain ⟨w1,hw1⟩:∃ x,w.alloc (.cells #[.int .u8 (e.toNat:Int),.slice Aa args.length ka,.slice Ag stages.length kg] 25)=x:=⟨_,rfl⟩
 rw [hw1] at hal hk;have HW1:=hY hw1;have HAL:=hY hal;have HK:=hY hk;have HA1:=hY (hca.new hal);have HG1:=hY (hcg.new hal);have HSA:=hY hsa;have HSG:=hY hsg;clear hw1 hal hk hca hcg hsa hsg;have HF:Hid (Ck.fileL (⟨e,args.map SM.s,stages.map GM.sg⟩:Ck.Fl)=x):=hY H.out;obtain ⟨tot,htot⟩:∃ t,args.length+(stages.map fun g=>g.ms.length).sum=t:=⟨_,rfl⟩
 have hct:Ck.countL (⟨e,args.map SM.s,stages.map GM.sg⟩:Ck.Fl)=tot:=hcount.trans htot;have HCT:=hY hct;have hsl:stages.length≤1050000:=by have h:=hsn;simp only [FM.fl,Jo] at h;omega
 have htl:tot≤1050000:=by have h:(stages.map GM.sg).length+Ck.countL (⟨e,args.map SM.s,stages.map GM.sg⟩:Ck.Fl)≤1050000:=hsn;rw [hct] at h;omega
 have hal2:args.length≤tot:=by omega
 obtain ⟨GS,hGS⟩:∃ G,Hid (G=stages.map GM.sg):=⟨_,hY rfl⟩
 obtain ⟨NS,hNS⟩:∃ G,Hid (G=stages.map GM.name):=⟨_,hY rfl⟩
 have HF1:Hid ((e≠92∧e≠96)→some (1,0)=x):=hY fun h=>(Ck.file_esc (f:=(⟨e,args.map SM.s,stages.map GM.sg⟩:Ck.Fl)) h).symm.trans HF.out;have HF2:Hid (¬ (e≠92∧e≠96)→stages.length=0→some (2,0)=x):=hY fun h h0=>(Ck.file_none (f:=(⟨e,args.map SM.s,stages.map GM.sg⟩:Ck.Fl)) h (Ki (by rw [Jo];exact h0))).symm.trans HF.out;have HF3:Hid (¬ (e≠92∧e≠96)→0<stages.length→32<stages.length∨512<tot→some (5,0)=x):=hY fun h h0 h1=>(Ck.file_many (f:=(⟨e,args.map SM.s,stages.map GM.sg⟩:Ck.Fl)) h (fun q=>by have:=congrArg List.length q;rw [Jo] at this;simp only [Jp] at this;omega) (by rw [HCT.out,Jo];exact h1)).symm.trans HF.out;have HF4:Hid (¬ (e≠92∧e≠96)→0<stages.length→¬ (32<stages.length∨512<tot)→Ck.restA e (args.map SM.s) GS=x):=hY fun h h0 h1=>by rw [hGS.out];exact (Ck.file_go (f:=(⟨e,args.map SM.s,stages.map GM.sg⟩:Ck.Fl)) h (fun q=>by have:=congrArg List.length q;rw [Jo] at this;simp only [Jp] at this;omega) (by rw [HCT.out,Jo];exact h1)).symm.trans HF.out
 have HTOT:=hY htot;clear H HF hct hsn hcount HCT htot;go_enter Tryz.func11,Tryz.ntmps11;go_upto_region 1 with fail;rw [HW1.out];clear HW1;have b0:w1.cell? ⟨w.heap.size,0,none⟩=some (.int .u8 (e.toNat:Int)):=HK.out.cell 0;have b1:w1.cell? ⟨w.heap.size,1,none⟩=some (.slice Aa args.length ka):=HK.out.cell 1;have b2:w1.cell? ⟨w.heap.size,2,none⟩=some (.slice Ag stages.length kg):=HK.out.cell 2;go_wp2_with fail;go_loopw [4,5] (fun t4 t5 wr=>∃ i c:Nat,i≤stages.length∧t5=.int .i64 (i:Int)∧t4=.int .i64 (c:Int)∧Hid (c=args.length+((stages.take i).map fun g=>g.ms.length).sum)∧w1=wr) (fun _ t5 _=>stages.length - (intOf t5).toNat)
 case atStart=>exact ⟨0,args.length,by omega,rfl,rfl,hY (by simp),by trivial⟩
 case round =>
  obtain ⟨i,c,hi,rfl,rfl,HC,rfl⟩:=hrel;have j0:(0:Int)≤(i:Int):=by omega
  rcases Jh i stages.length with hin | hin
  · have i0:decide ((i:Int)<(stages.length:Int))=true:=dT (by omega);have i1:(i:Int)<(stages.length:Int):=by omega
    obtain ⟨g,o,cc,G,A,k,hv,hG,hGv,hGs,c0,c1,c2,c3⟩:=z7 HG1.out hin;injection hv with hA _ hcc;subst hA hcc;have hst:=Zw stages i hin;rw [hG] at hst;have hle:=yq stages (i+1);have hcl:c+G.ms.length≤1050000:=by have:=HC.out;have:=HTOT.out;omega
    have HC2:Hid (c+G.ms.length=args.length+((stages.take (i+1)).map fun g=>g.ms.length).sum):=hY (by have:=HC.out;omega);clear hst hle HC;obtain ⟨c',hc'⟩:∃ q,c+G.ms.length=q:=⟨_,rfl⟩
    have hci:(c:Int)+(G.ms.length:Int)=(c':Int):=by omega
    rw [hc'] at HC2;go_wp2_with fail;go_roundw
    case rel=>exact ⟨i+1,c',by omega,by go_num,by trivial,HC2,by trivial⟩
    case measure=>simp [intOf];omega
  · have i0:decide ((i:Int)<(stages.length:Int))=false:=dF (by omega);have e0n:decide (i<stages.length)=false:=dF (by omega);have hct:c=tot:=by have h:=HC.out;rw [List.take_of_length_le hin] at h;have:=HTOT.out;omega
    subst hct;clear HC j0;obtain ⟨x92,e92⟩:∃ b,((e.toNat:Int)==92)=b:=⟨_,rfl⟩
    obtain ⟨x96,e96⟩:∃ b,((e.toNat:Int)==96)=b:=⟨_,rfl⟩
    have e92n:((e.toNat:Int) != 92)=!x92:=by rw [bne,e92]
    have e96n:((e.toNat:Int) != 96)=!x96:=by rw [bne,e96]
    obtain ⟨be,hbe⟩:∃ b,Hid ((!x92&&!x96)=b):=⟨_,hY rfl⟩
    have HBE:Hid ((e≠92∧e≠96)↔be=true):=hY (by
     have a1:(e==92)=x92:=by rw [←e92,show (92:Int)=(((92:UInt8).toNat:Nat):Int) from rfl,Vg]
     have a2:(e==96)=x96:=by rw [←e96,show (96:Int)=(((96:UInt8).toNat:Nat):Int) from rfl,Vg]
     rw [←hbe.out,←a1,←a2,Jy,Bool.not_eq_true',Bool.not_eq_true',Jr,Jr])
    go_upto_region 6 with fail;go_cut [31] from 32 to 39 (fun sy wx=>sy=.bool be∧w1=wx)
    case first =>
     as_aux_lemma =>
     cases x92 <;> cases x96 <;> (
      go_wp2_with fail;go_meet;exact ⟨by rw [←hbe.out];rfl,by trivial⟩)
    case rest =>
     obtain ⟨rfl,rfl⟩:=hcut;clear hbe e92 e96 e92n e96n;cases be with
     | true =>go_wp2_with fail;go_ret2;exact ⟨by rw [←(HF1.out (HBE.out.2 (by simp)))];rfl,HAL.out⟩
     | false =>
      have HE:Hid (¬ (e≠92∧e≠96)):=hY (fun h=>by have:=HBE.out.1 h;cases this);rcases Ju stages.length with z | z
      · have k0:((stages.length:Int)==0)=true:=bT (by omega);have k1:(stages.length==0)=true:=bT (by omega);have HZ:=hY z;clear z;go_wp2_with fail;go_ret2;exact ⟨by rw [←(HF2.out HE.out HZ.out)];rfl,HAL.out⟩
      · have k0:((stages.length:Int)==0)=false:=bF (by omega);have k1:(stages.length==0)=false:=bF (by omega);obtain ⟨y1,f1⟩:∃ b,decide (32<stages.length)=b:=⟨_,rfl⟩
        obtain ⟨y2,f2⟩:∃ b,decide (512<c)=b:=⟨_,rfl⟩
        have f1i:decide ((32:Int)<(stages.length:Int))=y1:=by rw [←f1,decide_eq_decide];omega
        have f2i:decide ((512:Int)<(c:Int))=y2:=by rw [←f2,decide_eq_decide];omega
        obtain ⟨bm,hbm⟩:∃ b,Hid ((y1||y2)=b):=⟨_,hY rfl⟩
        have HBM:Hid ((32<stages.length∨512<c)↔bm=true):=hY (by rw [←hbm.out,Bool.or_eq_true,←f1,←f2,Jj,Jj]);go_upto_region 10 with fail;go_cut [45] from 46 to 53 (fun sy wx=>sy=.bool bm∧w1=wx)
        case first =>
         as_aux_lemma =>
         cases y1 <;> cases y2 <;> (
          go_wp2_with fail;go_meet;exact ⟨by rw [←hbm.out];rfl,by trivial⟩)
        case rest =>
         obtain ⟨rfl,rfl⟩:=hcut;clear hbm f1 f2 f1i f2i k0 k1;cases bm with
         | true =>go_wp2_with fail;go_ret2;exact ⟨by rw [←(HF3.out HE.out z (HBM.out.2 (by simp)))];rfl,HAL.out⟩
         | false =>
          have HX0:Hid (Ck.restA e ((args.map SM.s).drop 0) GS=x):=hY (by rw [Jw];exact HF4.out HE.out z (fun h=>by have:=HBM.out.1 h;cases this));clear HF1 HF2 HF3 HF4 HBE HBM HE;go_upto_region 12 with fail;clear b0 b1 b2 i0 e0n;go_wp2_with fail;go_loopw [6,7] (fun t6 _ wr=>∃ i:Nat,i≤args.length∧t6=.int .i64 (i:Int)∧Hid (Ck.restA e ((args.map SM.s).drop i) GS=x)∧Hid (Below w1.heap.size w1 wr)) (fun t6 _ _=>args.length - (intOf t6).toNat)
          case atStart=>exact ⟨0,by omega,rfl,HX0,hY (Ja _ _)⟩
          case round =>
           as_aux_lemma =>
           clear HX0;rename World=>wr;obtain ⟨i,hi,rfl,HX,HB⟩:=hrel;have j0:(0:Int)≤(i:Int):=by omega
           have HBW:=hY (za HAL.out HB.out HAL.out.size);have HKr:=hY (HK.out.below HB.out HK.out.lt);have b1:wr.cell? ⟨w.heap.size,1,none⟩=some (.slice Aa args.length ka):=HKr.out.cell 1;have b2:wr.cell? ⟨w.heap.size,2,none⟩=some (.slice Ag stages.length kg):=HKr.out.cell 2;rcases Jh i args.length with hin | hin
           · have i0:decide ((i:Int)<(args.length:Int))=true:=dT (by omega);have i1:(i:Int)<(args.length:Int):=by omega
             have hA0:=HA1.out.new HB.out;have hmok:=HA1.out.2 _ (Jl hin);have hsmall:=HSA.out _ (List.mem_map.2 ⟨_,Jl hin,rfl⟩);obtain ⟨g,o,cc,s,Ap,Aw,Ad,Ae,kp,kw,kd,ke,hv,hse,cells⟩:=yh hA0 hin;injection hv with hA _ hcc;subst hA hcc;rw [hse] at hmok hsmall;have hX:=HX.out;rw [Zg hin,hse] at hX;have HX2:=hY hX;have HMO:=hY hmok;have HSS:=hY hsmall;have HCL:=hY cells;clear hA0 hse hmok hsmall hX HX cells;obtain ⟨n,HN⟩:∃ n,Hid (Ck.stepL s e=n):=⟨_,hY rfl⟩
             go_upto_region 15 with fail;clear b1 b2;refine' zk 8 (fun wx=>Below wr.heap.size wr wx) (VL [.pointer (some ⟨w.heap.size,1,none⟩),.slice (some ⟨g,o,none⟩) args.length ka,.int .i64 (i:Int),.pointer (some ⟨g,o+i*10,none⟩),.agg #[.int .i64 s.op,.int .i64 s.line,.string (bs s.from_),.string (bs s.mode),.bool s.force,.slice Ap s.pairs.length kp,.bool s.bare,.slice Aw s.words.length kw,.slice Ad s.docs.length kd,.slice Ae s.exec.length ke],.pointer (some ⟨w.heap.size,0,none⟩),.int .u8 (e.toNat:Int),.int .i64 (n:Int)]) ?F1 ?hF1 (by kernel_rfl) (by kernel_rfl) (by kernel_rfl) (by decide) (by kernel_rfl) (by kernel_rfl) (by kernel_rfl) (Ja _ _).drew ?hsteps1 ?hT1
             case hF1 =>intro xs;refine (zz _ _ _).trans ?_;simp only [zR,Act.put,List.setIfInBounds_toArray,List.set_cons_zero,List.set_cons_succ,Nat.reduceAdd,Jq];exact rfl
             case hsteps1 =>
              as_aux_lemma =>
              simp only [List.take_succ_cons,List.take_zero];refine Steps.c (n:=[]) (k:=1) (fun xs wx hS hV K hK=>?_) ?_
              · clear hV;go_simp;exact hK.out _ _ hS rfl (fun _ _ h=>h)
              refine Steps.c (n:=[0]) (k:=2) (fun xs wx hS hV K hK=>?_) ?_
              · obtain ⟨d0,-⟩:=hV;replace d0:xs 0=.pointer (some ⟨w.heap.size,1,none⟩):=(Jc d0).symm;rw [d0] at hK ⊢;have hkx:=HKr.out.below hS HKr.out.lt;have q:wx.cell? ⟨w.heap.size,1,none⟩=some (.slice (some ⟨g,o,none⟩) args.length ka):=hkx.cell 1;go_simp;exact hK.out _ _ hS rfl (fun _ _ h=>h)
              refine Steps.c (n:=[]) (k:=3) (fun xs wx hS hV K hK=>?_) ?_
              · clear hV;go_simp;exact hK.out _ _ hS rfl (fun _ _ h=>h)
              refine Steps.c (n:=[1,2]) (k:=4) (fun xs wx hS hV K hK=>?_) ?_
              · obtain ⟨d1,d2,-⟩:=hV;replace d1:xs 1=.slice (some ⟨g,o,none⟩) args.length ka:=(Jc d1).symm;replace d2:xs 2=.int .i64 (i:Int):=(Jc d2).symm;rw [d1,d2] at hK ⊢;go_simp;exact hK.out _ _ hS rfl (fun _ _ h=>h)
              refine Steps.c (n:=[3]) (k:=5) (fun xs wx hS hV K hK=>?_) ?_
              · obtain ⟨d3,-⟩:=hV;replace d3:xs 3=.pointer (some ⟨g,o+i*10,none⟩):=(Jc d3).symm;rw [d3] at hK ⊢;have q0:wx.cell? ⟨g,o+i*10,none⟩=some (.int .i64 s.op):=(hS.cell (Je wr _ HCL.out.1)).trans HCL.out.1;have q1:wx.cell? ⟨g,o+i*10+1,none⟩=some (.int .i64 s.line):=(hS.cell (Je wr _ HCL.out.2.1)).trans HCL.out.2.1;have q2:wx.cell? ⟨g,o+i*10+2,none⟩=some (.string (bs s.from_)):=(hS.cell (Je wr _ HCL.out.2.2.1)).trans HCL.out.2.2.1;have q3:wx.cell? ⟨g,o+i*10+3,none⟩=some (.string (bs s.mode)):=(hS.cell (Je wr _ HCL.out.2.2.2.1)).trans HCL.out.2.2.2.1;have q4:wx.cell? ⟨g,o+i*10+4,none⟩=some (.bool s.force):=(hS.cell (Je wr _ HCL.out.2.2.2.2.1)).trans HCL.out.2.2.2.2.1;have q5:wx.cell? ⟨g,o+i*10+5,none⟩=some (.slice Ap s.pairs.length kp):=(hS.cell (Je wr _ HCL.out.2.2.2.2.2.1)).trans HCL.out.2.2.2.2.2.1;have q6:wx.cell? ⟨g,o+i*10+6,none⟩=some (.bool s.bare):=(hS.cell (Je wr _ HCL.out.2.2.2.2.2.2.1)).trans HCL.out.2.2.2.2.2.2.1;have q7:wx.cell? ⟨g,o+i*10+7,none⟩=some (.slice Aw s.words.length kw):=(hS.cell (Je wr _ HCL.out.2.2.2.2.2.2.2.1)).trans HCL.out.2.2.2.2.2.2.2.1;have q8:wx.cell? ⟨g,o+i*10+8,none⟩=some (.slice Ad s.docs.length kd):=(hS.cell (Je wr _ HCL.out.2.2.2.2.2.2.2.2.1)).trans HCL.out.2.2.2.2.2.2.2.2.1;have q9:wx.cell? ⟨g,o+i*10+9,none⟩=some (.slice Ae s.exec.length ke):=(hS.cell (Je wr _ HCL.out.2.2.2.2.2.2.2.2.2)).trans HCL.out.2.2.2.2.2.2.2.2.2;go_simp;exact hK.out _ _ hS rfl (fun _ _ h=>h)
              refine Steps.c (n:=[]) (k:=6) (fun xs wx hS hV K hK=>?_) ?_
              · clear hV;go_simp;exact hK.out _ _ hS rfl (fun _ _ h=>h)
              refine Steps.c (n:=[5]) (k:=7) (fun xs wx hS hV K hK=>?_) ?_
              · obtain ⟨d5,-⟩:=hV;replace d5:xs 5=.pointer (some ⟨w.heap.size,0,none⟩):=(Jc d5).symm;rw [d5] at hK ⊢;have hkx:=HKr.out.below hS HKr.out.lt;have q:wx.cell? ⟨w.heap.size,0,none⟩=some (.int .u8 (e.toNat:Int)):=hkx.cell 0;go_simp;exact hK.out _ _ hS rfl (fun _ _ h=>h)
              refine Steps.c (n:=[4,6]) (k:=8) (fun xs wx hS hV K hK=>?_) ?_
              · obtain ⟨d4,d6,-⟩:=hV;replace d4:xs 4=.agg #[.int .i64 s.op,.int .i64 s.line,.string (bs s.from_),.string (bs s.mode),.bool s.force,.slice Ap s.pairs.length kp,.bool s.bare,.slice Aw s.words.length kw,.slice Ad s.docs.length kd,.slice Ae s.exec.length ke]:=(Jc d4).symm;replace d6:xs 6=.int .u8 (e.toNat:Int):=(Jc d6).symm;rw [d4,d6] at hK ⊢;go_simp;have hbx:=HB.out.trans (hS.mono HB.out.size);refine (YP ⟨s,.slice Ap s.pairs.length kp,.slice Aw s.words.length kw,.slice Ad s.docs.length kd,.slice Ae s.exec.length ke⟩ _ (HMO.out.new hbx) HSS.out.1 HSS.out.2 e HN).mono ?_;rintro r w2 ⟨rfl,p2⟩;exact hK.out _ _ (hS.trans (p2.mono hS.size)) rfl (fun _ _ h=>h)
              exact Steps.nil
             case hT1 =>
              intro xs w8 hS hV;have d7:xs 7=.int .i64 (n:Int):=(Jc (hV 7 (by decide))).symm;simp only [List.drop_succ_cons,Jw];rw [d7];have HS8:=hY hS;have HB8:=hY (HB.out.trans (hS.mono HB.out.size));have HBW8:=hY (za HBW.out hS HBW.out.size);have HK8:=hY (HKr.out.below hS HKr.out.lt);have q0:w8.cell? ⟨g,o+i*10,none⟩=some (.int .i64 s.op):=(hS.cell (Je wr _ HCL.out.1)).trans HCL.out.1;have q1:w8.cell? ⟨g,o+i*10+1,none⟩=some (.int .i64 s.line):=(hS.cell (Je wr _ HCL.out.2.1)).trans HCL.out.2.1;have b1:w8.cell? ⟨w.heap.size,1,none⟩=some (.slice (some ⟨g,o,none⟩) args.length ka):=HK8.out.cell 1;clear hV d7 hS HCL HB HBW HKr;have HBD:=hY HBW8.out.drew;obtain ⟨t,ht⟩:∃ b,(s.op==1)=b:=⟨_,rfl⟩
              have htn:(s.op != 1)=!t:=by rw [bne,ht]
              cases t with
              | false =>
               have HX3:Hid (some (19,s.line)=x):=hY ((Ck.restA_op (Jr.1 ht)).symm.trans HX2.out);go_upto_region 19 with fail;go_region
               all_goals (
                go_wp2_with fail;go_ret2;exact ⟨by rw [←HX3.out];rfl,HBD.out⟩)
              | true =>
               have HOP:Hid (s.op=1):=hY (Jx.1 ht);rcases Ju n with z | z
               · subst z;have HX3:=hY ((Ck.restA_ok HOP.out HN.out).symm.trans HX2.out);go_wp2_with fail;go_roundw
                 case rel=>first | exact ⟨i+1,by omega,by go_num,HX3,HB8⟩ | exact ⟨_,_,⟨i+1,by omega,by go_num,HX3,HB8⟩,rfl,rfl⟩
                 case measure=>simp [intOf];omega
               · have k0:((n:Int)==0)=false:=bF (by omega);have k1:(n==0)=false:=bF (by omega);have k2:((n:Int) != 0)=true:=by rw [bne,k0];rfl
                 have HX3:=hY ((Ck.restA_bad HOP.out (by rw [HN.out];omega)).symm.trans HX2.out);rw [HN.out] at HX3;go_upto_region 19 with fail;go_region
                 all_goals (
                  go_wp2_with fail;go_ret2;exact ⟨by rw [←HX3.out];rfl,HBD.out⟩)
           · have i0:decide ((i:Int)<(args.length:Int))=false:=dF (by omega);have e0n:decide (i<args.length)=false:=dF (by omega);have HX0:Hid (Ck.stagesL e (NS.take 0) (GS.drop 0)=x):=hY (by have h:=HX.out;rw [List.drop_of_length_le (by rw [Jo];omega)] at h;exact h);clear HX;go_upto_region 20 with fail;clear i0 e0n b1 b2 j0 HBW HKr;go_wp2_with fail;go_loopw [8,9,10,11] (fun t8 _ _ _ ws=>∃ i:Nat,i≤stages.length∧t8=.int .i64 (i:Int)∧Hid (Ck.stagesL e (NS.take i) (GS.drop i)=x)∧Hid (Below w1.heap.size w1 ws)) (fun t8 _ _ _ _=>stages.length - (intOf t8).toNat)
             case atStart=>exact ⟨0,by omega,rfl,HX0,HB⟩
             case round =>
              as_aux_lemma =>
              clear HX0 HB;rename World=>ws;obtain ⟨i,hi,rfl,HX,HB⟩:=hrel;have j0:(0:Int)≤(i:Int):=by omega
              have HBW:=hY (za HAL.out HB.out HAL.out.size);have HKr:=hY (HK.out.below HB.out HK.out.lt);have b0:ws.cell? ⟨w.heap.size,0,none⟩=some (.int .u8 (e.toNat:Int)):=HKr.out.cell 0;have b1:ws.cell? ⟨w.heap.size,1,none⟩=some (.slice Aa args.length ka):=HKr.out.cell 1;have b2:ws.cell? ⟨w.heap.size,2,none⟩=some (.slice Ag stages.length kg):=HKr.out.cell 2;rcases Jh i stages.length with hin | hin
              · have i0:decide ((i:Int)<(stages.length:Int))=true:=dT (by omega);have i1:(i:Int)<(stages.length:Int):=by omega
                obtain ⟨n,HN⟩:∃ n,Hid (Ck.stageL e ((stages.map GM.name).take i) stages[i].sg=n):=⟨_,hY rfl⟩
                have HCALL:=hY (XX ⟨e,.slice Aa args.length ka,args,.slice Ag stages.length kg,stages⟩ ws ⟨HA1.out.new HB.out,HG1.out.new HB.out⟩ HSM.out i hin HN);go_wp2_with fail;refine HCALL.out.mono ?_;rintro a w3 ⟨rfl,hb3⟩;have HB3:=hY (HB.out.trans (hb3.mono HB.out.size));have HBW3:=hY (za HBW.out hb3 HBW.out.size);have HK3:=hY (HKr.out.below hb3 HKr.out.lt);clear hb3 HCALL b0 b1 b2 HB HBW HKr;have hX:=HX.out;rw [hGS.out,Zg hin,hNS.out] at hX;have hnx:=Xu hin;have hms:=(HSG.out _ (List.mem_map.2 ⟨_,Jl hin,rfl⟩)).2.2;obtain ⟨g,o,cc,G,A,kk,hv,hG,hGv,hGs,c0,c1,c2,c3⟩:=z7 (HG1.out.new HB3.out) hin;injection hv with hA _ hcc;subst hA hcc;have hgm:G.ms.length≤1050000:=by have h1:=Zw stages i hin;rw [hG] at h1;have h2:=yq stages (i+1);have:=HTOT.out;omega
                rw [hG] at hX HN hnx hms;rw [←hNS.out] at hX HN hnx;rw [←hGS.out] at hX;have HX2:=hY hX;have HNX:=hY hnx;have HMS:Hid (∀ s∈G.ms.map SM.s,s.Small):=hY hms;have HGS2:=hY hGs;clear hX HX hnx hms hGs hG c1 c2;have b2:w3.cell? ⟨w.heap.size,2,none⟩=some (.slice (some ⟨g,o,none⟩) stages.length kg):=HK3.out.cell 2;have HBD:=hY HBW3.out.drew;rcases Ju n with z | z
                · subst z;have HX4:Hid (Ck.restS e ((G.ms.map SM.s).drop 0) (NS.take (i+1)) (GS.drop (i+1))=x):=hY (by rw [Jw,HNX.out];exact (Ck.stagesL_ok HN.out).symm.trans HX2.out);go_upto_region 26 with fail;clear HX2 HN i0 i1 j0 c0 b2 HBD;have HC3:=hY c3;rw [hGv] at HGS2;clear c3;go_wp2_with fail;go_loopw [10,11] (fun t10 _ wu=>∃ j:Nat,j≤G.ms.length∧t10=.int .i64 (j:Int)∧Hid (Ck.restS e ((G.ms.map SM.s).drop j) (NS.take (i+1)) (GS.drop (i+1))=x)∧Hid (Below w3.heap.size w3 wu)) (fun t10 _ _=>G.ms.length - (intOf t10).toNat)
                  case atStart=>exact ⟨0,by omega,rfl,HX4,hY (Ja _ _)⟩
                  case round =>
                   as_aux_lemma =>
                   clear HX4;rename World=>wu;obtain ⟨j,hj,rfl,HXu,HBu⟩:=hrel;have j0:(0:Int)≤(i:Int):=by omega
                   have j2:(0:Int)≤(j:Int):=by omega
                   have i1:(i:Int)<(stages.length:Int):=by omega
                   have HBu3:=hY (HB3.out.trans (HBu.out.mono HB3.out.size));have HBWu:=hY (za HBW3.out HBu.out HBW3.out.size);have HKu:=hY (HK3.out.below HBu.out HK3.out.lt);have b2:wu.cell? ⟨w.heap.size,2,none⟩=some (.slice (some ⟨g,o,none⟩) stages.length kg):=HKu.out.cell 2;have c3:wu.cell? ⟨g,o+i*4+3,none⟩=some (.slice A G.ms.length kk):=(HBu.out.cell (Je w3 _ HC3.out)).trans HC3.out;have HC3u:=hY c3;rcases Jh j G.ms.length with hjn | hjn
                   · have i2:decide ((j:Int)<(G.ms.length:Int))=true:=dT (by omega);have i3:(j:Int)<(G.ms.length:Int):=by omega
                     have hA0:=HGS2.out.new HBu.out;have hmok:=HGS2.out.2 _ (Jl hjn);have hsmall:=HMS.out _ (List.mem_map.2 ⟨_,Jl hjn,rfl⟩);obtain ⟨g2,o2,c',s,Ap,Aw,Ad,Ae,kp,kw,kd,ke,hv,hse,cells⟩:=yh hA0 hjn;injection hv with hA _ hcc;subst hA hcc;rw [hse] at hmok hsmall;have hX:=HXu.out;rw [Zg hjn,hse] at hX;have HX2:=hY hX;have HMO:=hY hmok;have HSS:=hY hsmall;have HCL:=hY cells;clear hA0 hse hmok hsmall hX HXu cells;obtain ⟨n,HN⟩:∃ n,Hid (Ck.stepL s e=n):=⟨_,hY rfl⟩
                     go_upto_region 29 with fail;clear b2 c3;refine' zk 12 (fun wx=>Below wu.heap.size wu wx) (VL [.pointer (some ⟨w.heap.size,2,none⟩),.slice (some ⟨g,o,none⟩) stages.length kg,.int .i64 (i:Int),.pointer (some ⟨g,o+i*4,none⟩),.pointer (some ⟨g,o+i*4+3,none⟩),.slice (some ⟨g2,o2,none⟩) G.ms.length kk,.int .i64 (j:Int),.pointer (some ⟨g2,o2+j*10,none⟩),.agg #[.int .i64 s.op,.int .i64 s.line,.string (bs s.from_),.string (bs s.mode),.bool s.force,.slice Ap s.pairs.length kp,.bool s.bare,.slice Aw s.words.length kw,.slice Ad s.docs.length kd,.slice Ae s.exec.length ke],.pointer (some ⟨w.heap.size,0,none⟩),.int .u8 (e.toNat:Int),.int .i64 (n:Int)]) ?F2 ?hF2 (by kernel_rfl) (by kernel_rfl) (by kernel_rfl) (by decide) (by kernel_rfl) (by kernel_rfl) (by kernel_rfl) (Ja _ _).drew ?hsteps2 ?hT2
                     case hF2 =>intro xs;refine (zz _ _ _).trans ?_;simp only [zR,Act.put,List.setIfInBounds_toArray,List.set_cons_zero,List.set_cons_succ,Nat.reduceAdd,Jq];exact rfl
                     case hsteps2 =>
                      as_aux_lemma =>
                      simp only [List.take_succ_cons,List.take_zero];refine Steps.c (n:=[]) (k:=1) (fun xs wx hS hV K hK=>?_) ?_
                      · clear hV;go_simp;exact hK.out _ _ hS rfl (fun _ _ h=>h)
                      refine Steps.c (n:=[0]) (k:=2) (fun xs wx hS hV K hK=>?_) ?_
                      · obtain ⟨d0,-⟩:=hV;replace d0:xs 0=.pointer (some ⟨w.heap.size,2,none⟩):=(Jc d0).symm;rw [d0] at hK ⊢;have hkx:=HKu.out.below hS HKu.out.lt;have q:wx.cell? ⟨w.heap.size,2,none⟩=some (.slice (some ⟨g,o,none⟩) stages.length kg):=hkx.cell 2;go_simp;exact hK.out _ _ hS rfl (fun _ _ h=>h)
                      refine Steps.c (n:=[]) (k:=3) (fun xs wx hS hV K hK=>?_) ?_
                      · clear hV;go_simp;exact hK.out _ _ hS rfl (fun _ _ h=>h)
                      refine Steps.c (n:=[1,2]) (k:=4) (fun xs wx hS hV K hK=>?_) ?_
                      · obtain ⟨d1,d2,-⟩:=hV;replace d1:xs 1=.slice (some ⟨g,o,none⟩) stages.length kg:=(Jc d1).symm;replace d2:xs 2=.int .i64 (i:Int):=(Jc d2).symm;rw [d1,d2] at hK ⊢;go_simp;exact hK.out _ _ hS rfl (fun _ _ h=>h)
                      refine Steps.c (n:=[3]) (k:=5) (fun xs wx hS hV K hK=>?_) ?_
                      · obtain ⟨d3,-⟩:=hV;replace d3:xs 3=.pointer (some ⟨g,o+i*4,none⟩):=(Jc d3).symm;rw [d3] at hK ⊢;go_simp;exact hK.out _ _ hS rfl (fun _ _ h=>h)
                      refine Steps.c (n:=[4]) (k:=6) (fun xs wx hS hV K hK=>?_) ?_
                      · obtain ⟨d4,-⟩:=hV;replace d4:xs 4=.pointer (some ⟨g,o+i*4+3,none⟩):=(Jc d4).symm;rw [d4] at hK ⊢;have q:wx.cell? ⟨g,o+i*4+3,none⟩=some (.slice (some ⟨g2,o2,none⟩) G.ms.length kk):=(hS.cell (Je wu _ HC3u.out)).trans HC3u.out;go_simp;exact hK.out _ _ hS rfl (fun _ _ h=>h)
                      refine Steps.c (n:=[]) (k:=7) (fun xs wx hS hV K hK=>?_) ?_
                      · clear hV;go_simp;exact hK.out _ _ hS rfl (fun _ _ h=>h)
                      refine Steps.c (n:=[5,6]) (k:=8) (fun xs wx hS hV K hK=>?_) ?_
                      · obtain ⟨d5,d6,-⟩:=hV;replace d5:xs 5=.slice (some ⟨g2,o2,none⟩) G.ms.length kk:=(Jc d5).symm;replace d6:xs 6=.int .i64 (j:Int):=(Jc d6).symm;rw [d5,d6] at hK ⊢;go_simp;exact hK.out _ _ hS rfl (fun _ _ h=>h)
                      refine Steps.c (n:=[7]) (k:=9) (fun xs wx hS hV K hK=>?_) ?_
                      · obtain ⟨d7,-⟩:=hV;replace d7:xs 7=.pointer (some ⟨g2,o2+j*10,none⟩):=(Jc d7).symm;rw [d7] at hK ⊢;have q0:wx.cell? ⟨g2,o2+j*10,none⟩=some (.int .i64 s.op):=(hS.cell (Je wu _ HCL.out.1)).trans HCL.out.1;have q1:wx.cell? ⟨g2,o2+j*10+1,none⟩=some (.int .i64 s.line):=(hS.cell (Je wu _ HCL.out.2.1)).trans HCL.out.2.1;have q2:wx.cell? ⟨g2,o2+j*10+2,none⟩=some (.string (bs s.from_)):=(hS.cell (Je wu _ HCL.out.2.2.1)).trans HCL.out.2.2.1;have q3:wx.cell? ⟨g2,o2+j*10+3,none⟩=some (.string (bs s.mode)):=(hS.cell (Je wu _ HCL.out.2.2.2.1)).trans HCL.out.2.2.2.1;have q4:wx.cell? ⟨g2,o2+j*10+4,none⟩=some (.bool s.force):=(hS.cell (Je wu _ HCL.out.2.2.2.2.1)).trans HCL.out.2.2.2.2.1;have q5:wx.cell? ⟨g2,o2+j*10+5,none⟩=some (.slice Ap s.pairs.length kp):=(hS.cell (Je wu _ HCL.out.2.2.2.2.2.1)).trans HCL.out.2.2.2.2.2.1;have q6:wx.cell? ⟨g2,o2+j*10+6,none⟩=some (.bool s.bare):=(hS.cell (Je wu _ HCL.out.2.2.2.2.2.2.1)).trans HCL.out.2.2.2.2.2.2.1;have q7:wx.cell? ⟨g2,o2+j*10+7,none⟩=some (.slice Aw s.words.length kw):=(hS.cell (Je wu _ HCL.out.2.2.2.2.2.2.2.1)).trans HCL.out.2.2.2.2.2.2.2.1;have q8:wx.cell? ⟨g2,o2+j*10+8,none⟩=some (.slice Ad s.docs.length kd):=(hS.cell (Je wu _ HCL.out.2.2.2.2.2.2.2.2.1)).trans HCL.out.2.2.2.2.2.2.2.2.1;have q9:wx.cell? ⟨g2,o2+j*10+9,none⟩=some (.slice Ae s.exec.length ke):=(hS.cell (Je wu _ HCL.out.2.2.2.2.2.2.2.2.2)).trans HCL.out.2.2.2.2.2.2.2.2.2;go_simp;exact hK.out _ _ hS rfl (fun _ _ h=>h)
                      refine Steps.c (n:=[]) (k:=10) (fun xs wx hS hV K hK=>?_) ?_
                      · clear hV;go_simp;exact hK.out _ _ hS rfl (fun _ _ h=>h)
                      refine Steps.c (n:=[9]) (k:=11) (fun xs wx hS hV K hK=>?_) ?_
                      · obtain ⟨d9,-⟩:=hV;replace d9:xs 9=.pointer (some ⟨w.heap.size,0,none⟩):=(Jc d9).symm;rw [d9] at hK ⊢;have hkx:=HKu.out.below hS HKu.out.lt;have q:wx.cell? ⟨w.heap.size,0,none⟩=some (.int .u8 (e.toNat:Int)):=hkx.cell 0;go_simp;exact hK.out _ _ hS rfl (fun _ _ h=>h)
                      refine Steps.c (n:=[8,10]) (k:=12) (fun xs wx hS hV K hK=>?_) ?_
                      · obtain ⟨d8,d10,-⟩:=hV;replace d8:xs 8=.agg #[.int .i64 s.op,.int .i64 s.line,.string (bs s.from_),.string (bs s.mode),.bool s.force,.slice Ap s.pairs.length kp,.bool s.bare,.slice Aw s.words.length kw,.slice Ad s.docs.length kd,.slice Ae s.exec.length ke]:=(Jc d8).symm;replace d10:xs 10=.int .u8 (e.toNat:Int):=(Jc d10).symm;rw [d8,d10] at hK ⊢;go_simp;have hbx:=HBu.out.trans (hS.mono HBu.out.size);refine (YP ⟨s,.slice Ap s.pairs.length kp,.slice Aw s.words.length kw,.slice Ad s.docs.length kd,.slice Ae s.exec.length ke⟩ _ (HMO.out.new hbx) HSS.out.1 HSS.out.2 e HN).mono ?_;rintro r w2 ⟨rfl,p2⟩;exact hK.out _ _ (hS.trans (p2.mono hS.size)) rfl (fun _ _ h=>h)
                      exact Steps.nil
                     case hT2 =>
                      intro xs w8 hS hV;have d11:xs 11=.int .i64 (n:Int):=(Jc (hV 11 (by decide))).symm;simp only [List.drop_succ_cons,Jw];rw [d11];have HB8:=hY (HBu.out.trans (hS.mono HBu.out.size));have HBW8:=hY (za HBWu.out hS HBWu.out.size);have HK8:=hY (HKu.out.below hS HKu.out.lt);have q1:w8.cell? ⟨g2,o2+j*10+1,none⟩=some (.int .i64 s.line):=(hS.cell (Je wu _ HCL.out.2.1)).trans HCL.out.2.1;have q3:w8.cell? ⟨g,o+i*4+3,none⟩=some (.slice (some ⟨g2,o2,none⟩) G.ms.length kk):=(hS.cell (Je wu _ HC3u.out)).trans HC3u.out;have b2:w8.cell? ⟨w.heap.size,2,none⟩=some (.slice (some ⟨g,o,none⟩) stages.length kg):=HK8.out.cell 2;clear hV d11 hS HCL HBu HBWu HKu HC3u HBu3;have HBD:=hY HBW8.out.drew;rcases Ju n with z | z
                      · subst z;have HX3:=hY ((Ck.restS_ok HN.out).symm.trans HX2.out);go_wp2_with fail;go_roundw
                        case rel=>first | exact ⟨j+1,by omega,by go_num,HX3,HB8⟩ | exact ⟨_,_,⟨j+1,by omega,by go_num,HX3,HB8⟩,rfl,rfl⟩
                        case measure=>simp [intOf];omega
                      · have k0:((n:Int)==0)=false:=bF (by omega);have k1:(n==0)=false:=bF (by omega);have k2:((n:Int) != 0)=true:=by rw [bne,k0];rfl
                        have HX3:=hY ((Ck.restS_bad (by rw [HN.out];omega)).symm.trans HX2.out);rw [HN.out] at HX3;go_upto_region 31 with fail;go_region
                        all_goals (
                         go_wp2_with fail;go_ret2;exact ⟨by rw [←HX3.out];rfl,HBD.out⟩)
                   · have i2:decide ((j:Int)<(G.ms.length:Int))=false:=dF (by omega);have e2n:decide (j<G.ms.length)=false:=dF (by omega);have HX5:Hid (Ck.stagesL e (NS.take (i+1)) (GS.drop (i+1))=x):=hY (by have h:=HXu.out;rw [List.drop_of_length_le (by rw [Jo];omega)] at h;exact h);clear HXu;go_wp2_with fail;go_roundw
                     case rel=>first | exact ⟨i+1,by omega,by go_num,HX5,HBu3⟩ | exact ⟨_,_,_,_,⟨i+1,by omega,by go_num,HX5,HBu3⟩,rfl,rfl,rfl,rfl⟩
                     case measure=>simp [intOf];omega
                · have k0:((n:Int)==0)=false:=bF (by omega);have k1:(n==0)=false:=bF (by omega);have k2:((n:Int) != 0)=true:=by rw [bne,k0];rfl
                  have HX4:Hid (some (n,G.line)=x):=hY ((Ck.stagesL_bad HN.out (by omega)).symm.trans HX2.out);go_upto_region 25 with fail;go_region
                  all_goals (
                   go_wp2_with fail;go_ret2;exact ⟨by rw [←HX4.out];rfl,HBD.out⟩)
              · have i0:decide ((i:Int)<(stages.length:Int))=false:=dF (by omega);have e0n:decide (i<stages.length)=false:=dF (by omega);have HX1:Hid (none=x):=hY (by have h:=HX.out;rw [List.drop_of_length_le (by rw [hGS.out,Jo];omega)] at h;exact h);go_wp2_with fail;go_ret2;exact ⟨by rw [←HX1.out];rfl,HBW.out⟩
end Go.Proofs.YtdaejggcjjdhkaaGreatDoor
