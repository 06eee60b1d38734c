/- strataref18: Step, walked. (Printed by wip/genref18.py.) -/
import Derived.Test.YtdaejggcjjdhkaaGreatDoorCkZa
import Derived.Test.YtdaejggcjjdhkaaGreatDoorMkM
import Derived.Test.YtdaejggcjjdhkaaGreatDoorCkR6
import Derived.Test.YtdaejggcjjdhkaaGreatDoorCkV
import Derived.Test.YtdaejggcjjdhkaaGreatDoorMkD
set_option maxHeartbeats 4000000
set_option maxRecDepth 100000
namespace Go.Proofs.YtdaejggcjjdhkaaGreatDoor
open Go Go.RowKit
def VZ (l:List Value) (T:Array Value):Nat→Value→World→Prop
 | 10,u,w=>∃ bk,u=.slice (some ⟨bk,0,none⟩) 4 4∧Blk w bk 3 T
 | i,u,_=>l[i]?=some u
theorem VZ.new {l:List Value} {T:Array Value} {w w':World} (k:Below w.heap.size w w') (j:Nat) (u:Value) (H:VZ l T j u w):VZ l T j u w':=by
 unfold VZ at H ⊢
 split at H
 · obtain ⟨bk,e,h⟩:=H;exact ⟨bk,e,h.below k h.lt⟩
 · exact H
def Z7:List Nat→Nat
 | []=>0
 | a::r=>if a≠0 then a else Z7 r
theorem jS (a b c d:Nat):Z7 [a,b,c,d]=if a≠0 then a else if b≠0 then b else if c≠0 then c else d:=by
 simp only [Z7]
 by_cases h:d=0
 · subst h;simp
 · simp [h]
theorem UN (s:Ck.St):(Ck.textsL s).length=2+s.words.length+s.exec.length+s.pairs.length*2+s.docs.length*2:=by
 have h1:∀ l:List Ck.Pr,(l.flatMap fun p=>[p.key,p.val]).length=l.length*2:=fun l=>by
  induction l with
  | nil=>rfl
  | cons p l ih=>rw [Ke,Jf,ih,Ji];simp only [Ji,Jp];omega
 have h2:∀ l:List Lx.Dc,(l.flatMap fun d=>[d.name,d.text]).length=l.length*2:=fun l=>by
  induction l with
  | nil=>rfl
  | cons p l ih=>rw [Ke,Jf,ih,Ji];simp only [Ji,Jp];omega
 unfold Ck.textsL;rw [Jf,Jf,Jf,Jf,h1,h2];simp only [Ji,Jp]
theorem YP (m:SM) (w:World) (hok:m.Ok w) (hn:m.s.words.length+m.s.exec.length+m.s.pairs.length+m.s.docs.length≤1050000) (hL:∀ t∈Ck.textsL m.s,t.length≤1050000) (e:UInt8) {x:Nat} (H:Hid (Ck.stepL m.s e=x)):Calls Tryz.prog 35 #[.agg #[.int .i64 m.s.op,.int .i64 m.s.line,.string (bs m.s.from_),.string (bs m.s.mode),.bool m.s.force,m.vp,.bool m.s.bare,m.vw,m.vd,m.ve],.int .u8 (e.toNat:Int)] w fun r w'=>r=.returned (.int .i64 (x:Int))∧Below w.heap.size w w':=by
 have HOK:=hY hok;have HLL:=hY hL;obtain ⟨s,vp,vw,vd,ve⟩:=m;have hcp:SlA w vp s.pairs.length (yV s.pairs):=hok.cp;have hcw:SlA w vw s.words.length (sc s.words):=hok.cw;have hcd:SlA w vd s.docs.length (yI s.docs):=hok.cd;have hce:SlA w ve s.exec.length (sc s.exec):=hok.ce;dsimp only at hn hL H HOK HLL ⊢;clear hok;obtain ⟨Ap,kp,rfl⟩:=hcp.form;obtain ⟨Aw,kw,rfl⟩:=hcw.form;obtain ⟨Ad,kd,rfl⟩:=hcd.form;obtain ⟨Ae,ke,rfl⟩:=hce.form;have hal:=(Ja w.heap.size w).alloc (Jd _) (.cells #[.int .i64 s.op,.int .i64 s.line,.string (bs s.from_),.string (bs s.mode),.bool s.force,.slice Ap s.pairs.length kp,.bool s.bare,.slice Aw s.words.length kw,.slice Ad s.docs.length kd,.slice Ae s.exec.length ke] 41);have hk:=Blk.new w 41 #[.int .i64 s.op,.int .i64 s.line,.string (bs s.from_),.string (bs s.mode),.bool s.force,.slice Ap s.pairs.length kp,.bool s.bare,.slice Aw s.words.length kw,.slice Ad s.docs.length kd,.slice Ae s.exec.length ke];obtain ⟨w1,hw1⟩:∃ x,w.alloc (.cells #[.int .i64 s.op,.int .i64 s.line,.string (bs s.from_),.string (bs s.mode),.bool s.force,.slice Ap s.pairs.length kp,.bool s.bare,.slice Aw s.words.length kw,.slice Ad s.docs.length kd,.slice Ae s.exec.length ke] 41)=x:=⟨_,rfl⟩
 rw [hw1] at hal hk;have HW1:=hY hw1;have HAL:=hY hal;have HK:=hY hk;have HP1:=hY (hcp.new hal);have HV1:=hY (hcw.new hal);have HD1:=hY (hcd.new hal);have HE1:=hY (hce.new hal);have HL:=hY hL;clear hw1 hal hk hcp hcw hcd hce hL;have HOK1:Hid ((⟨s,.slice Ap s.pairs.length kp,.slice Aw s.words.length kw,.slice Ad s.docs.length kd,.slice Ae s.exec.length ke⟩:SM).Ok w1):=hY (HOK.out.new HAL.out);obtain ⟨a1,e1⟩:∃ b,decide (s.op<1)=b:=⟨_,rfl⟩
 obtain ⟨a2,e2⟩:∃ b,decide (14<s.op)=b:=⟨_,rfl⟩
 obtain ⟨c19,h19⟩:∃ b,Hid ((a1||a2)=b):=⟨_,hY rfl⟩
 obtain ⟨c6,h6⟩:∃ b,Hid ((Ck.textsL s).any Ck.badT=b):=⟨_,hY rfl⟩
 obtain ⟨x1,hx1⟩:∃ b,Hid (Ck.fieldsL s=b):=⟨_,hY rfl⟩
 obtain ⟨x2,hx2⟩:∃ b,Hid (Ck.numbersL s=b):=⟨_,hY rfl⟩
 obtain ⟨x3,hx3⟩:∃ b,Hid (Ck.pairsL s.op e s.pairs=b):=⟨_,hY rfl⟩
 obtain ⟨x4,hx4⟩:∃ b,Hid (Ck.bodyL s e=b):=⟨_,hY rfl⟩
 have HX:Hid (x=if c19 then 19 else if c6 then 6 else Z7 [x1,x2,x3,x4]):=hY (by
  rw [←H.out,Ck.stepL,hx1.out,hx2.out,hx3.out,hx4.out,h6.out,←h19.out,jS];have g:(s.op<1∨14<s.op)↔(a1||a2)=true:=by rw [Bool.or_eq_true,←e1,←e2,Jj,Jj]
  exact Ck.if_congr g rfl (Ck.if_congr Iff.rfl rfl rfl))
 have HTL:Hid ((Ck.textsL s).length≤10000000):=hY (by have:=UN s;omega);have heb:e.toNat<256:=Jm _;clear H;go_enter Tryz.func35,Tryz.ntmps35;go_upto_region 1 with fail;rw [HW1.out];clear HW1;have b0:w1.cell? ⟨w.heap.size,0,none⟩=some (Value.int .i64 s.op):=HK.out.cell 0;have b1:w1.cell? ⟨w.heap.size,1,none⟩=some (Value.int .i64 s.line):=HK.out.cell 1;have b2:w1.cell? ⟨w.heap.size,2,none⟩=some (Value.string (bs s.from_)):=HK.out.cell 2;have b3:w1.cell? ⟨w.heap.size,3,none⟩=some (Value.string (bs s.mode)):=HK.out.cell 3;have b4:w1.cell? ⟨w.heap.size,4,none⟩=some (Value.bool s.force):=HK.out.cell 4;have b5:w1.cell? ⟨w.heap.size,5,none⟩=some (Value.slice Ap s.pairs.length kp):=HK.out.cell 5;have b6:w1.cell? ⟨w.heap.size,6,none⟩=some (Value.bool s.bare):=HK.out.cell 6;have b7:w1.cell? ⟨w.heap.size,7,none⟩=some (Value.slice Aw s.words.length kw):=HK.out.cell 7;have b8:w1.cell? ⟨w.heap.size,8,none⟩=some (Value.slice Ad s.docs.length kd):=HK.out.cell 8;have b9:w1.cell? ⟨w.heap.size,9,none⟩=some (Value.slice Ae s.exec.length ke):=HK.out.cell 9;go_cut [14] from 7 to 13 (fun sy wx=>sy=.bool c19∧w1=wx)
 case first =>
  as_aux_lemma =>
  cases a1 with
  | true =>go_wp2_with fail;go_meet;exact ⟨by rw [←h19.out];rfl,by trivial⟩
  | false =>
   cases a2 <;> (
    go_wp2_with fail;go_meet;exact ⟨by rw [←h19.out];rfl,by trivial⟩)
 case rest =>
  obtain ⟨rfl,rfl⟩:=hcut;cases c19 with
  | true =>go_wp2_with fail;go_ret;exact ⟨by rw [HX.out];rfl,HAL.out⟩
  | false =>
  have HTX:=hY (WA _ w1 HOK1.out hn);go_wp2_with fail;refine HTX.out.mono ?_;rintro a w2 ⟨⟨v,rfl,hsl⟩,hb2⟩;have HSL:=hY hsl;have HB2:=hY (za HAL.out hb2 HAL.out.size);have HK2:=hY (HK.out.below hb2 HK.out.lt);have HOK2:=hY (HOK1.out.new hb2);clear hsl hb2 HTX b0 b1 b2 b3 b4 b5 b6 b7 b8 b9;have HUN:=hY (YK v (Ck.textsL s) w2 HSL.out (fun t ht=>Jg (HLL.out t ht) (by decide)) HTL.out h6);go_wp2_with fail;refine HUN.out.mono ?_;rintro a wv ⟨rfl,rfl⟩;clear HUN HSL;cases c6 with
  | true =>go_wp2_with fail;go_ret;exact ⟨by rw [HX.out];rfl,HB2.out⟩
  | false =>
  go_upto_region 5 with fail;refine' z8 (fun wx=>Below w2.heap.size w2 wx) (VZ [.agg #[.int .i64 s.op,.int .i64 s.line,.string (bs s.from_),.string (bs s.mode),.bool s.force,.slice Ap s.pairs.length kp,.bool s.bare,.slice Aw s.words.length kw,.slice Ad s.docs.length kd,.slice Ae s.exec.length ke],.int .i64 (x1:Int),.agg #[.int .i64 s.op,.int .i64 s.line,.string (bs s.from_),.string (bs s.mode),.bool s.force,.slice Ap s.pairs.length kp,.bool s.bare,.slice Aw s.words.length kw,.slice Ad s.docs.length kd,.slice Ae s.exec.length ke],.int .i64 (x2:Int),.agg #[.int .i64 s.op,.int .i64 s.line,.string (bs s.from_),.string (bs s.mode),.bool s.force,.slice Ap s.pairs.length kp,.bool s.bare,.slice Aw s.words.length kw,.slice Ad s.docs.length kd,.slice Ae s.exec.length ke],.int .u8 (e.toNat:Int),.int .i64 (x3:Int),.agg #[.int .i64 s.op,.int .i64 s.line,.string (bs s.from_),.string (bs s.mode),.bool s.force,.slice Ap s.pairs.length kp,.bool s.bare,.slice Aw s.words.length kw,.slice Ad s.docs.length kd,.slice Ae s.exec.length ke],.int .u8 (e.toNat:Int),.int .i64 (x4:Int),undef,.int .i64 4,.int .i64 0] #[.int .i64 (x1:Int),.int .i64 (x2:Int),.int .i64 (x3:Int),.int .i64 (x4:Int)]) ?F ?hF (by kernel_rfl) (by kernel_rfl) (by kernel_rfl) (Ja _ _).drew ?hsteps ?hQ
  case hF =>intro xs;refine (zz _ _ _).trans ?_;simp only [zR,Act.put,List.setIfInBounds_toArray,List.set_cons_zero,List.set_cons_succ,Nat.reduceAdd,Jq];exact rfl
  case hsteps =>
   as_aux_lemma =>
   refine Steps.c (n:=[]) (k:=1) (fun xs wx hS hV K hK=>?_) ?_
   · clear hV;have hk:=HK2.out.below hS HK2.out.lt;have b0:wx.cell? ⟨w.heap.size,0,none⟩=some (Value.int .i64 s.op):=hk.cell 0;have b1:wx.cell? ⟨w.heap.size,1,none⟩=some (Value.int .i64 s.line):=hk.cell 1;have b2:wx.cell? ⟨w.heap.size,2,none⟩=some (Value.string (bs s.from_)):=hk.cell 2;have b3:wx.cell? ⟨w.heap.size,3,none⟩=some (Value.string (bs s.mode)):=hk.cell 3;have b4:wx.cell? ⟨w.heap.size,4,none⟩=some (Value.bool s.force):=hk.cell 4;have b5:wx.cell? ⟨w.heap.size,5,none⟩=some (Value.slice Ap s.pairs.length kp):=hk.cell 5;have b6:wx.cell? ⟨w.heap.size,6,none⟩=some (Value.bool s.bare):=hk.cell 6;have b7:wx.cell? ⟨w.heap.size,7,none⟩=some (Value.slice Aw s.words.length kw):=hk.cell 7;have b8:wx.cell? ⟨w.heap.size,8,none⟩=some (Value.slice Ad s.docs.length kd):=hk.cell 8;have b9:wx.cell? ⟨w.heap.size,9,none⟩=some (Value.slice Ae s.exec.length ke):=hk.cell 9;clear hk;go_simp;exact hK.out _ _ hS rfl (fun _ _ h=>h)
   refine Steps.c (n:=[0]) (k:=2) (fun xs wx hS hV K hK=>?_) ?_
   · obtain ⟨d0,-⟩:=hV;replace d0:xs 0=.agg #[.int .i64 s.op,.int .i64 s.line,.string (bs s.from_),.string (bs s.mode),.bool s.force,.slice Ap s.pairs.length kp,.bool s.bare,.slice Aw s.words.length kw,.slice Ad s.docs.length kd,.slice Ae s.exec.length ke]:=(Jc d0).symm;rw [d0] at hK ⊢;go_simp;refine (Wk _ wx (HOK2.out.new hS) hn HLL.out hx1).mono ?_;rintro r w4 ⟨rfl,p4⟩;exact hK.out _ _ (hS.trans (p4.mono hS.size)) rfl (fun j u h=>VZ.new p4 j u h)
   refine Steps.c (n:=[]) (k:=3) (fun xs wx hS hV K hK=>?_) ?_
   · clear hV;have hk:=HK2.out.below hS HK2.out.lt;have b0:wx.cell? ⟨w.heap.size,0,none⟩=some (Value.int .i64 s.op):=hk.cell 0;have b1:wx.cell? ⟨w.heap.size,1,none⟩=some (Value.int .i64 s.line):=hk.cell 1;have b2:wx.cell? ⟨w.heap.size,2,none⟩=some (Value.string (bs s.from_)):=hk.cell 2;have b3:wx.cell? ⟨w.heap.size,3,none⟩=some (Value.string (bs s.mode)):=hk.cell 3;have b4:wx.cell? ⟨w.heap.size,4,none⟩=some (Value.bool s.force):=hk.cell 4;have b5:wx.cell? ⟨w.heap.size,5,none⟩=some (Value.slice Ap s.pairs.length kp):=hk.cell 5;have b6:wx.cell? ⟨w.heap.size,6,none⟩=some (Value.bool s.bare):=hk.cell 6;have b7:wx.cell? ⟨w.heap.size,7,none⟩=some (Value.slice Aw s.words.length kw):=hk.cell 7;have b8:wx.cell? ⟨w.heap.size,8,none⟩=some (Value.slice Ad s.docs.length kd):=hk.cell 8;have b9:wx.cell? ⟨w.heap.size,9,none⟩=some (Value.slice Ae s.exec.length ke):=hk.cell 9;clear hk;go_simp;exact hK.out _ _ hS rfl (fun _ _ h=>h)
   refine Steps.c (n:=[2]) (k:=4) (fun xs wx hS hV K hK=>?_) ?_
   · obtain ⟨d2,-⟩:=hV;replace d2:xs 2=.agg #[.int .i64 s.op,.int .i64 s.line,.string (bs s.from_),.string (bs s.mode),.bool s.force,.slice Ap s.pairs.length kp,.bool s.bare,.slice Aw s.words.length kw,.slice Ad s.docs.length kd,.slice Ae s.exec.length ke]:=(Jc d2).symm;rw [d2] at hK ⊢;go_simp;refine (Xl _ wx (HOK2.out.new hS) hn HLL.out hx2).mono ?_;rintro r w4 ⟨rfl,p4⟩;exact hK.out _ _ (hS.trans (p4.mono hS.size)) rfl (fun j u h=>VZ.new p4 j u h)
   refine Steps.c (n:=[]) (k:=5) (fun xs wx hS hV K hK=>?_) ?_
   · clear hV;have hk:=HK2.out.below hS HK2.out.lt;have b0:wx.cell? ⟨w.heap.size,0,none⟩=some (Value.int .i64 s.op):=hk.cell 0;have b1:wx.cell? ⟨w.heap.size,1,none⟩=some (Value.int .i64 s.line):=hk.cell 1;have b2:wx.cell? ⟨w.heap.size,2,none⟩=some (Value.string (bs s.from_)):=hk.cell 2;have b3:wx.cell? ⟨w.heap.size,3,none⟩=some (Value.string (bs s.mode)):=hk.cell 3;have b4:wx.cell? ⟨w.heap.size,4,none⟩=some (Value.bool s.force):=hk.cell 4;have b5:wx.cell? ⟨w.heap.size,5,none⟩=some (Value.slice Ap s.pairs.length kp):=hk.cell 5;have b6:wx.cell? ⟨w.heap.size,6,none⟩=some (Value.bool s.bare):=hk.cell 6;have b7:wx.cell? ⟨w.heap.size,7,none⟩=some (Value.slice Aw s.words.length kw):=hk.cell 7;have b8:wx.cell? ⟨w.heap.size,8,none⟩=some (Value.slice Ad s.docs.length kd):=hk.cell 8;have b9:wx.cell? ⟨w.heap.size,9,none⟩=some (Value.slice Ae s.exec.length ke):=hk.cell 9;clear hk;go_simp;exact hK.out _ _ hS rfl (fun _ _ h=>h)
   refine Steps.c (n:=[]) (k:=6) (fun xs wx hS hV K hK=>?_) ?_
   · clear hV;go_simp;exact hK.out _ _ hS rfl (fun _ _ h=>h)
   refine Steps.c (n:=[4,5]) (k:=7) (fun xs wx hS hV K hK=>?_) ?_
   · obtain ⟨d4,d5,-⟩:=hV;replace d4:xs 4=.agg #[.int .i64 s.op,.int .i64 s.line,.string (bs s.from_),.string (bs s.mode),.bool s.force,.slice Ap s.pairs.length kp,.bool s.bare,.slice Aw s.words.length kw,.slice Ad s.docs.length kd,.slice Ae s.exec.length ke]:=(Jc d4).symm;replace d5:xs 5=.int .u8 (e.toNat:Int):=(Jc d5).symm;rw [d4,d5] at hK ⊢;go_simp;refine (WS _ wx (HOK2.out.new hS) hn HLL.out e hx3).mono ?_;rintro r w4 ⟨rfl,p4⟩;exact hK.out _ _ (hS.trans (p4.mono hS.size)) rfl (fun j u h=>VZ.new p4 j u h)
   refine Steps.c (n:=[]) (k:=8) (fun xs wx hS hV K hK=>?_) ?_
   · clear hV;have hk:=HK2.out.below hS HK2.out.lt;have b0:wx.cell? ⟨w.heap.size,0,none⟩=some (Value.int .i64 s.op):=hk.cell 0;have b1:wx.cell? ⟨w.heap.size,1,none⟩=some (Value.int .i64 s.line):=hk.cell 1;have b2:wx.cell? ⟨w.heap.size,2,none⟩=some (Value.string (bs s.from_)):=hk.cell 2;have b3:wx.cell? ⟨w.heap.size,3,none⟩=some (Value.string (bs s.mode)):=hk.cell 3;have b4:wx.cell? ⟨w.heap.size,4,none⟩=some (Value.bool s.force):=hk.cell 4;have b5:wx.cell? ⟨w.heap.size,5,none⟩=some (Value.slice Ap s.pairs.length kp):=hk.cell 5;have b6:wx.cell? ⟨w.heap.size,6,none⟩=some (Value.bool s.bare):=hk.cell 6;have b7:wx.cell? ⟨w.heap.size,7,none⟩=some (Value.slice Aw s.words.length kw):=hk.cell 7;have b8:wx.cell? ⟨w.heap.size,8,none⟩=some (Value.slice Ad s.docs.length kd):=hk.cell 8;have b9:wx.cell? ⟨w.heap.size,9,none⟩=some (Value.slice Ae s.exec.length ke):=hk.cell 9;clear hk;go_simp;exact hK.out _ _ hS rfl (fun _ _ h=>h)
   refine Steps.c (n:=[]) (k:=9) (fun xs wx hS hV K hK=>?_) ?_
   · clear hV;go_simp;exact hK.out _ _ hS rfl (fun _ _ h=>h)
   refine Steps.c (n:=[7,8]) (k:=10) (fun xs wx hS hV K hK=>?_) ?_
   · obtain ⟨d7,d8,-⟩:=hV;replace d7:xs 7=.agg #[.int .i64 s.op,.int .i64 s.line,.string (bs s.from_),.string (bs s.mode),.bool s.force,.slice Ap s.pairs.length kp,.bool s.bare,.slice Aw s.words.length kw,.slice Ad s.docs.length kd,.slice Ae s.exec.length ke]:=(Jc d7).symm;replace d8:xs 8=.int .u8 (e.toNat:Int):=(Jc d8).symm;rw [d7,d8] at hK ⊢;go_simp;refine (Wt _ wx (HOK2.out.new hS) hn HLL.out e hx4).mono ?_;rintro r w4 ⟨rfl,p4⟩;exact hK.out _ _ (hS.trans (p4.mono hS.size)) rfl (fun j u h=>VZ.new p4 j u h)
   refine Steps.c (n:=[1,3,6,9]) (k:=11) (fun xs wx hS hV K hK=>?_) ?_
   · obtain ⟨d1,d3,d6,d9,-⟩:=hV;replace d1:xs 1=.int .i64 (x1:Int):=(Jc d1).symm;replace d3:xs 3=.int .i64 (x2:Int):=(Jc d3).symm;replace d6:xs 6=.int .i64 (x3:Int):=(Jc d6).symm;replace d9:xs 9=.int .i64 (x4:Int):=(Jc d9).symm;rw [d1,d3,d6,d9] at hK ⊢;go_simp;exact hK.out _ _ (hS.alloc hS.size _) ⟨_,rfl,Blk.new _ _ _⟩ (fun j u h=>VZ.new ((Ja _ _).alloc (Jd _) _) j u h)
   refine Steps.c (n:=[10]) (k:=12) (fun xs wx hS hV K hK=>?_) ?_
   · obtain ⟨⟨bk,d10,hb⟩,-⟩:=hV;rw [d10] at hK ⊢;go_simp;exact hK.out _ _ hS rfl (fun _ _ h=>h)
   refine Steps.c (n:=[]) (k:=13) (fun xs wx hS hV K hK=>?_) ?_
   · clear hV;go_simp;exact hK.out _ _ hS rfl (fun _ _ h=>h)
   exact Steps.nil
  case hQ =>
   intro xs w9 hS hV;obtain ⟨bk,d10,hnb⟩:=hV 10 (by decide);have d11:xs 11=.int .i64 4:=(Jc (hV 11 (by decide))).symm;have d12:xs 12=.int .i64 0:=(Jc (hV 12 (by decide))).symm;rw [d10,d11,d12];have HNB:=hY hnb;have HB9:=hY (za HB2.out hS HB2.out.size);clear hV hnb d10 d11 d12 hS HK2 HOK2 HB2;have H0:Hid (x=Z7 ([x1,x2,x3,x4].drop 0)):=hY (by rw [HX.out];rfl);clear HX;go_wp2_with fail;go_loopw [30] (fun t30 wr=>∃ k:Nat,k≤4∧t30=.int .i64 (k:Int)∧Hid (x=Z7 ([x1,x2,x3,x4].drop k))∧w9=wr) (fun t30 _=>4 - (intOf t30).toNat)
   case atStart=>exact ⟨0,by omega,rfl,H0,by trivial⟩
   case round =>
    clear H0;obtain ⟨k,hk,rfl,HR,rfl⟩:=hrel;have j0:(0:Int)≤(k:Int):=by omega
    rcases Jh k 4 with hk4 | hk4
    · have i0:decide ((k:Int)<4)=true:=dT (by omega);have i1:(k:Int)<4:=by omega
      have i0n:decide (k<4)=true:=dT (by omega);obtain ⟨y,hy⟩:∃ y,[x1,x2,x3,x4][k]'hk4=y:=⟨_,rfl⟩
      have hcell:w9.cell? ⟨bk,k,none⟩=some (.int .i64 (y:Int)):=by
       rw [HNB.out.cell k,←hy]
       match k,hk4 with
       | 0,_=>rfl
       | 1,_=>rfl
       | 2,_=>rfl
       | 3,_=>rfl
      have hR:=HR.out;rw [Js (l:=[x1,x2,x3,x4]) (h:=hk4),hy] at hR;have HR2:Hid (x=if y≠0 then y else Z7 ([x1,x2,x3,x4].drop (k+1))):=hY hR;clear hR HR hy;rcases Ju y with hy0 | hy0
      · subst hy0;go_wp2_with fail;go_roundw
        case rel=>exact ⟨k+1,by omega,by go_num,hY (by rw [HR2.out,if_neg (by simp)]),by trivial⟩
        case measure=>simp [intOf];omega
      · have k0:((y:Int)==0)=false:=bF (by omega);have k1:(y==0)=false:=bF (by omega);have k2:((y:Int) != 0)=true:=by rw [bne,k0];rfl
        have HF:Hid (x=y):=hY (by rw [HR2.out,if_pos (by omega)]);go_wp2_with fail;go_ret;exact ⟨by rw [HF.out];rfl,HB9.out⟩
    · have i0:decide ((k:Int)<4)=false:=dF (by omega);have i0n:decide (k<4)=false:=dF (by omega);have HF:Hid (x=0):=hY (by rw [HR.out,Jt (by simp;omega)];rfl);go_wp2_with fail;go_ret;exact ⟨by rw [HF.out];rfl,HB9.out⟩
end Go.Proofs.YtdaejggcjjdhkaaGreatDoor
