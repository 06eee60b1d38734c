/- strataref18: numbers, fields, walked. (Printed by wip/genref18.py.) -/
import Derived.Test.YtdaejggcjjdhkaaGreatDoorMkJ
import Derived.Test.YtdaejggcjjdhkaaGreatDoorCkFu
import Derived.Test.YtdaejggcjjdhkaaGreatDoorMkB
set_option maxHeartbeats 4000000
set_option maxRecDepth 100000
namespace Go.Proofs.YtdaejggcjjdhkaaGreatDoor
open Go Go.RowKit
theorem V9 (l:List Ck.Pr) (i:Nat) (hi:i<l.length):(l.take (i+1)).any (fun p=>!p.val.isEmpty)=((l.take i).any (fun p=>!p.val.isEmpty)||!l[i].val.isEmpty):=by rw [List.take_add_one,Jk hi,List.any_append];simp
theorem VD (s:List UInt8) (hs:s.length≤2000000) (hl:70000<s.length) (w:World):Calls Tryz.prog 49 #[.string (bs s)] w fun r w'=>(∃ x,r=.returned (.tuple #[.string x,.bool false]))∧Below w.heap.size w w':=by have hz:=zd s;have i0:decide ((96:Int)<((bs s).size:Int))=true:=dT (by omega);have i1:decide (96<(bs s).size)=true:=dT (by omega);clear hz;go_enter Tryz.func49,Tryz.ntmps49;go_wp2_with fail;go_ret2;exact ⟨⟨_,rfl⟩,Ja _ _⟩
theorem UP (s:List UInt8) (hs:s.length≤2000000) (w:World) {b:Bool} (H:Hid (Ck.refR s=b)):Calls Tryz.prog 18 #[.string (bs s)] w fun r w'=>r=.returned (.int .i64 (if b then 0 else 31))∧Below w.heap.size w w':=by
 rcases Jh 70000 s.length with hl | hl
 · have hb:b=false:=by rw [←H.out,Ck.refR,decide_eq_false (by omega),Bool.false_and]
   subst hb;go_enter Tryz.func18,Tryz.ntmps18;go_wp2_with fail;refine (VD s hs hl w).mono ?_;rintro r w1 ⟨⟨x,rfl⟩,p1⟩;go_wp2_with fail;go_ret;exact ⟨rfl,p1⟩
 · exact Yp s hl w H
theorem Xl (m:SM) (w:World) (hok:m.Ok w) (hn:m.s.words.length+m.s.exec.length+m.s.pairs.length+m.s.docs.length≤1050000) (hL:∀ t∈Ck.textsL m.s,t.length≤1050000) {x:Nat} (H:Hid (Ck.numbersL m.s=x)):Calls Tryz.prog 84 #[.agg #[.int .i64 m.s.op,.int .i64 m.s.line,.string (bs m.s.from_),.string (bs m.s.mode),.bool m.s.force,m.vp,.bool m.s.bare,m.vw,m.vd,m.ve]] w fun r w'=>r=.returned (.int .i64 (x:Int))∧Below w.heap.size w w':=by
 obtain ⟨s,vp,vw,vd,ve⟩:=m;have hcp:SlA w vp s.pairs.length (yV s.pairs):=hok.cp;have hcw:SlA w vw s.words.length (sc s.words):=hok.cw;have hcd:SlA w vd s.docs.length (yI s.docs):=hok.cd;have hce:SlA w ve s.exec.length (sc s.exec):=hok.ce;dsimp only at hn hL H ⊢;clear hok;obtain ⟨Ap,kp,rfl⟩:=hcp.form;obtain ⟨Aw,kw,rfl⟩:=hcw.form;obtain ⟨Ad,kd,rfl⟩:=hcd.form;obtain ⟨Ae,ke,rfl⟩:=hce.form;have hal:=(Ja w.heap.size w).alloc (Jd _) (.cells #[.int .i64 s.op,.int .i64 s.line,.string (bs s.from_),.string (bs s.mode),.bool s.force,.slice Ap s.pairs.length kp,.bool s.bare,.slice Aw s.words.length kw,.slice Ad s.docs.length kd,.slice Ae s.exec.length ke] 41);have hk:=Blk.new w 41 #[.int .i64 s.op,.int .i64 s.line,.string (bs s.from_),.string (bs s.mode),.bool s.force,.slice Ap s.pairs.length kp,.bool s.bare,.slice Aw s.words.length kw,.slice Ad s.docs.length kd,.slice Ae s.exec.length ke];obtain ⟨w1,hw1⟩:∃ x,w.alloc (.cells #[.int .i64 s.op,.int .i64 s.line,.string (bs s.from_),.string (bs s.mode),.bool s.force,.slice Ap s.pairs.length kp,.bool s.bare,.slice Aw s.words.length kw,.slice Ad s.docs.length kd,.slice Ae s.exec.length ke] 41)=x:=⟨_,rfl⟩
 rw [hw1] at hal hk;have HW1:=hY hw1;have HAL:=hY hal;have HK:=hY hk;have HP1:=hY (hcp.new hal);have HV1:=hY (hcw.new hal);have HD1:=hY (hcd.new hal);have HE1:=hY (hce.new hal);have HL:=hY hL;clear hw1 hal hk hcp hcw hcd hce hL;have hfl:s.from_.length≤1050000:=HL.out _ (by simp [Ck.textsL]);have hml:s.mode.length≤1050000:=HL.out _ (by simp [Ck.textsL]);obtain ⟨NN,hN⟩:∃ n,s.words.length+s.pairs.length+s.exec.length=n:=⟨_,rfl⟩
 have hNi:(s.words.length:Int)+(s.pairs.length:Int)+(s.exec.length:Int)=(NN:Int):=by omega
 obtain ⟨l,hl⟩:∃ l,Hid (Ck.least s.op=l):=⟨_,hY rfl⟩
 obtain ⟨q,hq⟩:∃ q,Hid (Ck.most s.op=q):=⟨_,hY rfl⟩
 obtain ⟨k1,hk1⟩:∃ b,decide (NN<l)=b:=⟨_,rfl⟩
 obtain ⟨k2,hk2⟩:∃ b,decide (q<NN)=b:=⟨_,rfl⟩
 obtain ⟨k3,hk3⟩:∃ b,decide (q<64)=b:=⟨_,rfl⟩
 obtain ⟨c31,h31⟩:∃ b,Hid (Ck.c31 s=b):=⟨_,hY rfl⟩
 obtain ⟨c16,h16⟩:∃ b,Hid (Ck.c16 s=b):=⟨_,hY rfl⟩
 have HX:Hid (x=if k1 then 2 else if k2&&k3 then 3 else if k2 then 5 else if c31 then 31 else if c16 then 16 else 0):=hY (by rw [←H.out,Ck.number_b,Ck.numN,hN,hl.out,hq.out,hk1,hk2,hk3,h31.out,h16.out]);have i1:decide ((NN:Int)<(l:Int))=k1:=by rw [←hk1,decide_eq_decide];omega
 have i2:decide ((q:Int)<(NN:Int))=k2:=by rw [←hk2,decide_eq_decide];omega
 have i3:decide ((q:Int)<64)=k3:=by rw [←hk3,decide_eq_decide];omega
 have HMY:=hY (QU s.op w1);rw [hl.out,hq.out] at HMY;obtain ⟨zf,ezf⟩:∃ b,(bs s.from_).toList.isEmpty=b:=⟨_,rfl⟩
 obtain ⟨zm,ezm⟩:∃ b,(bs s.mode).toList.isEmpty=b:=⟨_,rfl⟩
 obtain ⟨ad,had⟩:∃ b,Hid (Ck.digitsR s.from_=b):=⟨_,hY rfl⟩
 obtain ⟨ag,hag⟩:∃ b,Hid (Ck.stageR s.from_=b):=⟨_,hY rfl⟩
 obtain ⟨ar,har⟩:∃ b,Hid (Ck.refR s.from_=b):=⟨_,hY rfl⟩
 obtain ⟨am,ham⟩:∃ b,Hid (Ck.modeR s.mode=b):=⟨_,hY rfl⟩
 have hy:Hid (c31=(!zf&&!ad&&!ag&&!ar)):=hY (by rw [←h31.out,Ck.c31,had.out,hag.out,har.out,←ezf,zh]);have hy2:Hid (c16=(!zm&&!am)):=hY (by rw [←h16.out,Ck.c16,ham.out,←ezm,zh]);clear hN H;go_enter Tryz.func84,Tryz.ntmps84;go_upto_region 1 with fail;rw [HW1.out];clear HW1;have b0:w1.cell? ⟨w.heap.size,0,none⟩=some (Value.int .i64 s.op):=HK.out.cell 0;have b2:w1.cell? ⟨w.heap.size,2,none⟩=some (Value.string (bs s.from_)):=HK.out.cell 2;have b3:w1.cell? ⟨w.heap.size,3,none⟩=some (Value.string (bs s.mode)):=HK.out.cell 3;have b5:w1.cell? ⟨w.heap.size,5,none⟩=some (Value.slice Ap s.pairs.length kp):=HK.out.cell 5;have b7:w1.cell? ⟨w.heap.size,7,none⟩=some (Value.slice Aw s.words.length kw):=HK.out.cell 7;have b9:w1.cell? ⟨w.heap.size,9,none⟩=some (Value.slice Ae s.exec.length ke):=HK.out.cell 9;go_wp2_with fail;refine HMY.out.mono ?_;rintro a wv ⟨rfl,rfl⟩;clear HMY hNi;cases k1 with
 | true =>go_wp2_with fail;go_ret;exact ⟨by rw [HX.out];rfl,HAL.out⟩
 | false =>
 cases k2 with
 | true =>
  cases k3 <;> (
   go_wp2_with fail;go_ret;exact ⟨by rw [HX.out];rfl,HAL.out⟩)
 | false =>
 go_upto_region 9 with fail;go_cut [39] from 40 to 60 (fun sy wx=>sy=.bool c31∧Below w1.heap.size w1 wx)
 case first =>
  cases zf with
  | true =>go_wp2_with fail;go_meet;exact ⟨by rw [hy.out];rfl,Ja _ _⟩
  | false =>
   go_wp2_with fail;refine (Wm s.from_ (by omega) w1 had).mono ?_;rintro a wv ⟨rfl,rfl⟩;cases ad with
   | true =>go_wp2_with fail;go_meet;exact ⟨by rw [hy.out];rfl,Ja _ _⟩
   | false =>
    go_wp2_with fail;refine (Yu s.from_ (by omega) w1 hag).mono ?_;rintro a wv ⟨rfl,rfl⟩;cases ag with
    | true =>go_wp2_with fail;go_meet;exact ⟨by rw [hy.out];rfl,Ja _ _⟩
    | false =>
     go_wp2_with fail;refine (UP s.from_ (by omega) w1 har).mono ?_;rintro a wv ⟨rfl,hb⟩;have HB:=hY hb;clear hb;cases ar <;> (
      go_wp2_with fail;go_meet;exact ⟨by rw [hy.out];rfl,HB.out⟩)
 case rest =>
  obtain ⟨rfl,hb2⟩:=hcut;rename World=>w2;have HK2:=hY (HK.out.below hb2 HK.out.lt);have HB2:=hY (za HAL.out hb2 HAL.out.size);clear hb2 b0 b2 b3 b5 b7 b9 hy;cases c31 with
  | true =>go_wp2_with fail;go_ret;exact ⟨by rw [HX.out];rfl,HB2.out⟩
  | false =>
  have b3:w2.cell? ⟨w.heap.size,3,none⟩=some (Value.string (bs s.mode)):=HK2.out.cell 3;cases zm with
  | true =>
   have hc:c16=false:=by rw [hy2.out];rfl
   subst hc;go_wp2_with fail;go_ret;exact ⟨by rw [HX.out];rfl,HB2.out⟩
  | false =>
   have hc:c16=!am:=by rw [hy2.out];rfl
   subst hc;go_wp2_with fail;refine (VN s.mode (by omega) w2 ham).mono ?_;rintro a wv ⟨rfl,rfl⟩;cases am <;> (
    go_wp2_with fail;go_ret;exact ⟨by rw [HX.out];rfl,HB2.out⟩)
theorem Wk (m:SM) (w:World) (hok:m.Ok w) (hn:m.s.words.length+m.s.exec.length+m.s.pairs.length+m.s.docs.length≤1050000) (hL:∀ t∈Ck.textsL m.s,t.length≤1050000) {x:Nat} (H:Hid (Ck.fieldsL m.s=x)):Calls Tryz.prog 83 #[.agg #[.int .i64 m.s.op,.int .i64 m.s.line,.string (bs m.s.from_),.string (bs m.s.mode),.bool m.s.force,m.vp,.bool m.s.bare,m.vw,m.vd,m.ve]] w fun r w'=>r=.returned (.int .i64 (x:Int))∧Below w.heap.size w w':=by
 obtain ⟨s,vp,vw,vd,ve⟩:=m;have hcp:SlA w vp s.pairs.length (yV s.pairs):=hok.cp;have hcw:SlA w vw s.words.length (sc s.words):=hok.cw;have hcd:SlA w vd s.docs.length (yI s.docs):=hok.cd;have hce:SlA w ve s.exec.length (sc s.exec):=hok.ce;dsimp only at hn hL H ⊢;clear hok;obtain ⟨Ap,kp,rfl⟩:=hcp.form;obtain ⟨Aw,kw,rfl⟩:=hcw.form;obtain ⟨Ad,kd,rfl⟩:=hcd.form;obtain ⟨Ae,ke,rfl⟩:=hce.form;have hal:=(Ja w.heap.size w).alloc (Jd _) (.cells #[.int .i64 s.op,.int .i64 s.line,.string (bs s.from_),.string (bs s.mode),.bool s.force,.slice Ap s.pairs.length kp,.bool s.bare,.slice Aw s.words.length kw,.slice Ad s.docs.length kd,.slice Ae s.exec.length ke] 41);have hk:=Blk.new w 41 #[.int .i64 s.op,.int .i64 s.line,.string (bs s.from_),.string (bs s.mode),.bool s.force,.slice Ap s.pairs.length kp,.bool s.bare,.slice Aw s.words.length kw,.slice Ad s.docs.length kd,.slice Ae s.exec.length ke];obtain ⟨w1,hw1⟩:∃ x,w.alloc (.cells #[.int .i64 s.op,.int .i64 s.line,.string (bs s.from_),.string (bs s.mode),.bool s.force,.slice Ap s.pairs.length kp,.bool s.bare,.slice Aw s.words.length kw,.slice Ad s.docs.length kd,.slice Ae s.exec.length ke] 41)=x:=⟨_,rfl⟩
 rw [hw1] at hal hk;have HW1:=hY hw1;have HAL:=hY hal;have HK:=hY hk;have HP1:=hY (hcp.new hal);have HV1:=hY (hcw.new hal);have HD1:=hY (hcd.new hal);have HE1:=hY (hce.new hal);have HL:=hY hL;clear hw1 hal hk hcp hcw hcd hce hL;obtain ⟨x1,e1⟩:∃ b,(s.op==1)=b:=⟨_,rfl⟩
 have e1n:(s.op != 1)=!x1:=by rw [bne,e1]
 obtain ⟨x2,e2⟩:∃ b,(s.op==2)=b:=⟨_,rfl⟩
 have e2n:(s.op != 2)=!x2:=by rw [bne,e2]
 obtain ⟨x3,e3⟩:∃ b,(s.op==3)=b:=⟨_,rfl⟩
 have e3n:(s.op != 3)=!x3:=by rw [bne,e3]
 obtain ⟨x5,e5⟩:∃ b,(s.op==5)=b:=⟨_,rfl⟩
 have e5n:(s.op != 5)=!x5:=by rw [bne,e5]
 obtain ⟨x6,e6⟩:∃ b,(s.op==6)=b:=⟨_,rfl⟩
 have e6n:(s.op != 6)=!x6:=by rw [bne,e6]
 obtain ⟨x7,e7⟩:∃ b,(s.op==7)=b:=⟨_,rfl⟩
 have e7n:(s.op != 7)=!x7:=by rw [bne,e7]
 obtain ⟨x8,e8⟩:∃ b,(s.op==8)=b:=⟨_,rfl⟩
 have e8n:(s.op != 8)=!x8:=by rw [bne,e8]
 obtain ⟨x13,e13⟩:∃ b,(s.op==13)=b:=⟨_,rfl⟩
 have e13n:(s.op != 13)=!x13:=by rw [bne,e13]
 obtain ⟨x14,e14⟩:∃ b,(s.op==14)=b:=⟨_,rfl⟩
 have e14n:(s.op != 14)=!x14:=by rw [bne,e14]
 obtain ⟨zf,ezf⟩:∃ b,(bs s.from_).toList.isEmpty=b:=⟨_,rfl⟩
 obtain ⟨zm,ezm⟩:∃ b,(bs s.mode).toList.isEmpty=b:=⟨_,rfl⟩
 obtain ⟨yp,eyp⟩:∃ b,decide (0<s.pairs.length)=b:=⟨_,rfl⟩
 have iyp:decide ((0:Int)<(s.pairs.length:Int))=yp:=by rw [←eyp,decide_eq_decide];omega
 obtain ⟨yw,eyw⟩:∃ b,decide (0<s.words.length)=b:=⟨_,rfl⟩
 have iyw:decide ((0:Int)<(s.words.length:Int))=yw:=by rw [←eyw,decide_eq_decide];omega
 obtain ⟨yd,eyd⟩:∃ b,decide (0<s.docs.length)=b:=⟨_,rfl⟩
 have iyd:decide ((0:Int)<(s.docs.length:Int))=yd:=by rw [←eyd,decide_eq_decide];omega
 obtain ⟨ye,eye⟩:∃ b,decide (0<s.exec.length)=b:=⟨_,rfl⟩
 have iye:decide ((0:Int)<(s.exec.length:Int))=ye:=by rw [←eye,decide_eq_decide];omega
 obtain ⟨fo,EFO⟩:∃ b,Hid (s.force=b):=⟨_,hY rfl⟩
 obtain ⟨ba,EBA⟩:∃ b,Hid (s.bare=b):=⟨_,hY rfl⟩
 obtain ⟨pp,hpp⟩:∃ b,Hid (((x1||x2)||x3)=b):=⟨_,hY rfl⟩
 obtain ⟨px,hpx⟩:∃ b,Hid ((x13||x14)=b):=⟨_,hY rfl⟩
 obtain ⟨f1,hf1⟩:∃ b,Hid ((((!zf&&!x5)||(((!zm&&!x5)&&!x6)&&!x8))||(fo&&!x7))=b):=⟨_,hY rfl⟩
 obtain ⟨f2,hf2⟩:∃ b,Hid ((((((yp&&!pp)||(yw&&(pp||px)))||(yd&&!x5))||(ye&&!px))||(ba&&!x1))=b):=⟨_,hY rfl⟩
 obtain ⟨an,han⟩:∃ b,Hid ((s.pairs.any fun p=>!p.val.isEmpty)=b):=⟨_,hY rfl⟩
 have HX:Hid (x=if f1 then 20 else if f2 then 4 else if ba&&an then 4 else 0):=hY (by
  have emp0:∀ {α:Type} (l:List α),(!l.isEmpty)=decide (0<l.length):=fun l=>by cases l <;> simp
  rw [←H.out,Ck.field_b];have g1:(Ck.c20a s||Ck.c20b s||Ck.c20c s)=f1:=by rw [←hf1.out,Ck.c20a,Ck.c20b,Ck.c20c,e5,e6,e7,e8,EFO.out,←ezf,←ezm,zh,zh]
  have g2:(Ck.c4a s||Ck.c4b s||Ck.c4c s||Ck.c4d s||Ck.baB s)=(f2||(ba&&an)):=by rw [←hf2.out,Ck.c4a,Ck.c4b,Ck.c4c,Ck.c4d,Ck.baB,Ck.prB,Ck.exB,emp0,emp0,emp0,emp0,eyp,eyw,eyd,eye,e1,e2,e3,e5,e13,e14,EBA.out,han.out,hpp.out,hpx.out];simp only [Bool.or_assoc]
  rw [g1,g2];cases f1 <;> cases f2 <;> cases ba <;> cases an <;> rfl)
 clear H;go_enter Tryz.func83,Tryz.ntmps83;go_upto_region 1 with fail;rw [HW1.out];clear HW1;have b0:w1.cell? ⟨w.heap.size,0,none⟩=some (Value.int .i64 s.op):=HK.out.cell 0;have b4:w1.cell? ⟨w.heap.size,4,none⟩=some (Value.bool fo):=by rw [←EFO.out];exact HK.out.cell 4
 have b6:w1.cell? ⟨w.heap.size,6,none⟩=some (Value.bool ba):=by rw [←EBA.out];exact HK.out.cell 6
 have b2:w1.cell? ⟨w.heap.size,2,none⟩=some (Value.string (bs s.from_)):=HK.out.cell 2;have b3:w1.cell? ⟨w.heap.size,3,none⟩=some (Value.string (bs s.mode)):=HK.out.cell 3;have b5:w1.cell? ⟨w.heap.size,5,none⟩=some (Value.slice Ap s.pairs.length kp):=HK.out.cell 5;have b7:w1.cell? ⟨w.heap.size,7,none⟩=some (Value.slice Aw s.words.length kw):=HK.out.cell 7;have b8:w1.cell? ⟨w.heap.size,8,none⟩=some (Value.slice Ad s.docs.length kd):=HK.out.cell 8;have b9:w1.cell? ⟨w.heap.size,9,none⟩=some (Value.slice Ae s.exec.length ke):=HK.out.cell 9;go_upto_region 1 with fail;go_cut [3] from 6 to 18 (fun sy wx=>sy=.bool pp∧w1=wx)
 case first =>
  as_aux_lemma =>
  cases x1 with
  | true =>go_wp2_with fail;go_meet;exact ⟨by rw [←hpp.out];rfl,by trivial⟩
  | false =>
   cases x2 with
   | true =>go_wp2_with fail;go_meet;exact ⟨by rw [←hpp.out];rfl,by trivial⟩
   | false =>
    cases x3 with
    | true =>go_wp2_with fail;go_meet;exact ⟨by rw [←hpp.out];rfl,by trivial⟩
    | false =>go_wp2_with fail;go_meet;exact ⟨by rw [←hpp.out];rfl,by trivial⟩
 case rest =>
 obtain ⟨rfl,rfl⟩:=hcut;go_upto_region 2 with fail;go_cut [4] from 19 to 26 (fun sy wx=>sy=.bool px∧w1=wx)
 case first =>
  as_aux_lemma =>
  cases x13 with
  | true =>go_wp2_with fail;go_meet;exact ⟨by rw [←hpx.out];rfl,by trivial⟩
  | false =>
   cases x14 with
   | true =>go_wp2_with fail;go_meet;exact ⟨by rw [←hpx.out];rfl,by trivial⟩
   | false =>go_wp2_with fail;go_meet;exact ⟨by rw [←hpx.out];rfl,by trivial⟩
 case rest =>
 obtain ⟨rfl,rfl⟩:=hcut;go_upto_region 3 with fail;go_cut [63] from 27 to 62 (fun sy wx=>sy=.bool f1∧w1=wx)
 case first =>
  as_aux_lemma =>
  cases zf with
  | true =>
   cases zm with
   | true =>
    cases fo with
    | true =>
     cases x7 with
     | true =>go_wp2_with fail;go_meet;exact ⟨by rw [←hf1.out];rfl,by trivial⟩
     | false =>go_wp2_with fail;go_meet;exact ⟨by rw [←hf1.out];rfl,by trivial⟩
    | false =>go_wp2_with fail;go_meet;exact ⟨by rw [←hf1.out];rfl,by trivial⟩
   | false =>
    cases x5 with
    | true =>
     cases fo with
     | true =>
      cases x7 with
      | true =>go_wp2_with fail;go_meet;exact ⟨by rw [←hf1.out];rfl,by trivial⟩
      | false =>go_wp2_with fail;go_meet;exact ⟨by rw [←hf1.out];rfl,by trivial⟩
     | false =>go_wp2_with fail;go_meet;exact ⟨by rw [←hf1.out];rfl,by trivial⟩
    | false =>
     cases x6 with
     | true =>
      cases fo with
      | true =>
       cases x7 with
       | true =>go_wp2_with fail;go_meet;exact ⟨by rw [←hf1.out];rfl,by trivial⟩
       | false =>go_wp2_with fail;go_meet;exact ⟨by rw [←hf1.out];rfl,by trivial⟩
      | false =>go_wp2_with fail;go_meet;exact ⟨by rw [←hf1.out];rfl,by trivial⟩
     | false =>
      cases x8 with
      | true =>
       cases fo with
       | true =>
        cases x7 with
        | true =>go_wp2_with fail;go_meet;exact ⟨by rw [←hf1.out];rfl,by trivial⟩
        | false =>go_wp2_with fail;go_meet;exact ⟨by rw [←hf1.out];rfl,by trivial⟩
       | false =>go_wp2_with fail;go_meet;exact ⟨by rw [←hf1.out];rfl,by trivial⟩
      | false =>go_wp2_with fail;go_meet;exact ⟨by rw [←hf1.out];rfl,by trivial⟩
  | false =>
   cases x5 with
   | true =>
    cases zm with
    | true =>
     cases fo with
     | true =>
      cases x7 with
      | true =>go_wp2_with fail;go_meet;exact ⟨by rw [←hf1.out];rfl,by trivial⟩
      | false =>go_wp2_with fail;go_meet;exact ⟨by rw [←hf1.out];rfl,by trivial⟩
     | false =>go_wp2_with fail;go_meet;exact ⟨by rw [←hf1.out];rfl,by trivial⟩
    | false =>
     cases fo with
     | true =>
      cases x7 with
      | true =>go_wp2_with fail;go_meet;exact ⟨by rw [←hf1.out];rfl,by trivial⟩
      | false =>go_wp2_with fail;go_meet;exact ⟨by rw [←hf1.out];rfl,by trivial⟩
     | false =>go_wp2_with fail;go_meet;exact ⟨by rw [←hf1.out];rfl,by trivial⟩
   | false =>go_wp2_with fail;go_meet;exact ⟨by rw [←hf1.out];rfl,by trivial⟩
 case rest =>
 obtain ⟨rfl,rfl⟩:=hcut;cases f1 with
 | true =>go_wp2_with fail;go_ret;exact ⟨by rw [HX.out];rfl,HAL.out⟩
 | false =>
 go_upto_region 5 with fail;go_cut [113] from 64 to 112 (fun sy wx=>sy=.bool f2∧w1=wx)
 case first =>
  as_aux_lemma =>
  cases yp with
  | true =>
   cases pp with
   | true =>
    cases yw with
    | true =>go_wp2_with fail;go_meet;exact ⟨by rw [←hf2.out];rfl,by trivial⟩
    | false =>
     cases yd with
     | true =>
      cases x5 with
      | true =>
       cases ye with
       | true =>
        cases px with
        | true =>
         cases ba with
         | true =>
          cases x1 with
          | true =>go_wp2_with fail;go_meet;exact ⟨by rw [←hf2.out];rfl,by trivial⟩
          | false =>go_wp2_with fail;go_meet;exact ⟨by rw [←hf2.out];rfl,by trivial⟩
         | false =>go_wp2_with fail;go_meet;exact ⟨by rw [←hf2.out];rfl,by trivial⟩
        | false =>go_wp2_with fail;go_meet;exact ⟨by rw [←hf2.out];rfl,by trivial⟩
       | false =>
        cases ba with
        | true =>
         cases x1 with
         | true =>go_wp2_with fail;go_meet;exact ⟨by rw [←hf2.out];rfl,by trivial⟩
         | false =>go_wp2_with fail;go_meet;exact ⟨by rw [←hf2.out];rfl,by trivial⟩
        | false =>go_wp2_with fail;go_meet;exact ⟨by rw [←hf2.out];rfl,by trivial⟩
      | false =>go_wp2_with fail;go_meet;exact ⟨by rw [←hf2.out];rfl,by trivial⟩
     | false =>
      cases ye with
      | true =>
       cases px with
       | true =>
        cases ba with
        | true =>
         cases x1 with
         | true =>go_wp2_with fail;go_meet;exact ⟨by rw [←hf2.out];rfl,by trivial⟩
         | false =>go_wp2_with fail;go_meet;exact ⟨by rw [←hf2.out];rfl,by trivial⟩
        | false =>go_wp2_with fail;go_meet;exact ⟨by rw [←hf2.out];rfl,by trivial⟩
       | false =>go_wp2_with fail;go_meet;exact ⟨by rw [←hf2.out];rfl,by trivial⟩
      | false =>
       cases ba with
       | true =>
        cases x1 with
        | true =>go_wp2_with fail;go_meet;exact ⟨by rw [←hf2.out];rfl,by trivial⟩
        | false =>go_wp2_with fail;go_meet;exact ⟨by rw [←hf2.out];rfl,by trivial⟩
       | false =>go_wp2_with fail;go_meet;exact ⟨by rw [←hf2.out];rfl,by trivial⟩
   | false =>go_wp2_with fail;go_meet;exact ⟨by rw [←hf2.out];rfl,by trivial⟩
  | false =>
   cases yw with
   | true =>
    cases pp with
    | true =>go_wp2_with fail;go_meet;exact ⟨by rw [←hf2.out];rfl,by trivial⟩
    | false =>
     cases px with
     | true =>go_wp2_with fail;go_meet;exact ⟨by rw [←hf2.out];rfl,by trivial⟩
     | false =>
      cases yd with
      | true =>
       cases x5 with
       | true =>
        cases ye with
        | true =>go_wp2_with fail;go_meet;exact ⟨by rw [←hf2.out];rfl,by trivial⟩
        | false =>
         cases ba with
         | true =>
          cases x1 with
          | true =>go_wp2_with fail;go_meet;exact ⟨by rw [←hf2.out];rfl,by trivial⟩
          | false =>go_wp2_with fail;go_meet;exact ⟨by rw [←hf2.out];rfl,by trivial⟩
         | false =>go_wp2_with fail;go_meet;exact ⟨by rw [←hf2.out];rfl,by trivial⟩
       | false =>go_wp2_with fail;go_meet;exact ⟨by rw [←hf2.out];rfl,by trivial⟩
      | false =>
       cases ye with
       | true =>go_wp2_with fail;go_meet;exact ⟨by rw [←hf2.out];rfl,by trivial⟩
       | false =>
        cases ba with
        | true =>
         cases x1 with
         | true =>go_wp2_with fail;go_meet;exact ⟨by rw [←hf2.out];rfl,by trivial⟩
         | false =>go_wp2_with fail;go_meet;exact ⟨by rw [←hf2.out];rfl,by trivial⟩
        | false =>go_wp2_with fail;go_meet;exact ⟨by rw [←hf2.out];rfl,by trivial⟩
   | false =>
    cases yd with
    | true =>
     cases x5 with
     | true =>
      cases ye with
      | true =>
       cases px with
       | true =>
        cases ba with
        | true =>
         cases x1 with
         | true =>go_wp2_with fail;go_meet;exact ⟨by rw [←hf2.out];rfl,by trivial⟩
         | false =>go_wp2_with fail;go_meet;exact ⟨by rw [←hf2.out];rfl,by trivial⟩
        | false =>go_wp2_with fail;go_meet;exact ⟨by rw [←hf2.out];rfl,by trivial⟩
       | false =>go_wp2_with fail;go_meet;exact ⟨by rw [←hf2.out];rfl,by trivial⟩
      | false =>
       cases ba with
       | true =>
        cases x1 with
        | true =>go_wp2_with fail;go_meet;exact ⟨by rw [←hf2.out];rfl,by trivial⟩
        | false =>go_wp2_with fail;go_meet;exact ⟨by rw [←hf2.out];rfl,by trivial⟩
       | false =>go_wp2_with fail;go_meet;exact ⟨by rw [←hf2.out];rfl,by trivial⟩
     | false =>go_wp2_with fail;go_meet;exact ⟨by rw [←hf2.out];rfl,by trivial⟩
    | false =>
     cases ye with
     | true =>
      cases px with
      | true =>
       cases ba with
       | true =>
        cases x1 with
        | true =>go_wp2_with fail;go_meet;exact ⟨by rw [←hf2.out];rfl,by trivial⟩
        | false =>go_wp2_with fail;go_meet;exact ⟨by rw [←hf2.out];rfl,by trivial⟩
       | false =>go_wp2_with fail;go_meet;exact ⟨by rw [←hf2.out];rfl,by trivial⟩
      | false =>go_wp2_with fail;go_meet;exact ⟨by rw [←hf2.out];rfl,by trivial⟩
     | false =>
      cases ba with
      | true =>
       cases x1 with
       | true =>go_wp2_with fail;go_meet;exact ⟨by rw [←hf2.out];rfl,by trivial⟩
       | false =>go_wp2_with fail;go_meet;exact ⟨by rw [←hf2.out];rfl,by trivial⟩
      | false =>go_wp2_with fail;go_meet;exact ⟨by rw [←hf2.out];rfl,by trivial⟩
 case rest =>
 obtain ⟨rfl,rfl⟩:=hcut;cases f2 with
 | true =>go_wp2_with fail;go_ret;exact ⟨by rw [HX.out];rfl,HAL.out⟩
 | false =>
 have HT0:Hid ((s.pairs.take 0).any (fun p=>!p.val.isEmpty)=false):=hY rfl;clear e1 e1n e2 e2n e3 e3n e5 e5n e6 e6n e7 e7n e8 e8n e13 e13n e14 e14n ezf ezm eyp eyw eyd eye iyp iyw iyd iye hpp hpx hf1 hf2 b0 b2 b3 b4 b7 b8 b9;go_wp2_with fail;go_loopw [5] (fun t5 wr=>∃ i:Nat,i≤s.pairs.length∧t5=.int .i64 (i:Int)∧Hid ((ba&&(s.pairs.take i).any (fun p=>!p.val.isEmpty))=false)∧w1=wr) (fun t5 _=>s.pairs.length - (intOf t5).toNat)
 case atStart=>exact ⟨0,by omega,rfl,hY (by rw [HT0.out,Bool.and_false]),by trivial⟩
 case round =>
  obtain ⟨i,hi,rfl,HT,rfl⟩:=hrel;have j0:(0:Int)≤(i:Int):=by omega
  rcases Jh i s.pairs.length with hin | hin
  · have i0:decide ((i:Int)<(s.pairs.length:Int))=true:=dT (by omega);have i1:(i:Int)<(s.pairs.length:Int):=by omega
    obtain ⟨g,o,c,hv,c0,c1⟩:=ZB HP1.out hin;injection hv with hA _ hcc;subst hA hcc;have hsn:=V9 s.pairs i hin;obtain ⟨u,hu⟩:∃ u,s.pairs[i].val=u:=⟨_,rfl⟩
    rw [hu] at c1 hsn;obtain ⟨zu,ezu⟩:∃ b,(bs u).toList.isEmpty=b:=⟨_,rfl⟩
    have HSN:Hid ((s.pairs.take (i+1)).any (fun p=>!p.val.isEmpty)=((s.pairs.take i).any (fun p=>!p.val.isEmpty)||!zu)):=hY (by rw [hsn,←ezu,zh]);clear c0 hsn hu;cases ba with
    | false =>
     go_wp2_with fail;go_roundw
     case rel=>exact ⟨i+1,by omega,by go_num,hY rfl,by trivial⟩
     case measure=>simp [intOf];omega
    | true =>
     cases zu with
     | true =>
      go_wp2_with fail;go_roundw
      case rel=>exact ⟨i+1,by omega,by go_num,hY (by rw [HSN.out,Bool.not_true,Bool.or_false];exact HT.out),by trivial⟩
      case measure=>simp [intOf];omega
     | false =>
      have hE:an=true:=by
       have h1:(s.pairs.take (i+1)).any (fun p=>!p.val.isEmpty)=true:=by rw [HSN.out,Bool.not_false,Bool.or_true]
       rw [List.any_eq_true] at h1;obtain ⟨p,hp,hq⟩:=h1;rw [←han.out,List.any_eq_true];exact ⟨p,List.mem_of_mem_take hp,hq⟩
      go_wp2_with fail;go_ret;exact ⟨by rw [HX.out,hE];rfl,HAL.out⟩
  · have i0:decide ((i:Int)<(s.pairs.length:Int))=false:=dF (by omega);have e0n:decide (i<s.pairs.length)=false:=dF (by omega);have hE:(ba&&an)=false:=by have h1:=HT.out;rw [List.take_of_length_le hin,han.out] at h1;exact h1
    go_wp2_with fail;go_ret;exact ⟨by rw [HX.out,hE];rfl,HAL.out⟩
end Go.Proofs.YtdaejggcjjdhkaaGreatDoor
