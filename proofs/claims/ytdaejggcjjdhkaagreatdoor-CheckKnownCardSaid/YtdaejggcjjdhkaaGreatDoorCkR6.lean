/- strataref18.texts, walked. (Printed by wip/gentx.py.) -/
import Derived.Test.YtdaejggcjjdhkaaGreatDoorMkJ
import Derived.Test.YtdaejggcjjdhkaaGreatDoorMkG
import Derived.Test.YtdaejggcjjdhkaaGreatDoorRelyU
set_option maxHeartbeats 4000000
set_option maxRecDepth 100000
namespace Go.Proofs.YtdaejggcjjdhkaaGreatDoor
open Go Go.RowKit
def VX (l:List Value) (T:Array Value):Nat→Value→World→Prop
 | 13,u,w=>∃ bk,u=.slice (some ⟨bk,0,none⟩) 2 2∧Blk w bk 9 T
 | i,u,_=>l[i]?=some u
theorem VX.new {l:List Value} {T:Array Value} {w w':World} (k:Below w.heap.size w w') (j:Nat) (u:Value) (H:VX l T j u w):VX l T j u w':=by
 unfold VX at H ⊢
 split at H
 · obtain ⟨bk,e,h⟩:=H;exact ⟨bk,e,h.below k h.lt⟩
 · exact H
theorem WA (m:SM) (w:World) (hok:m.Ok w) (hn:m.s.words.length+m.s.exec.length+m.s.pairs.length+m.s.docs.length≤1050000):
  Calls Tryz.prog 82 #[.agg #[.int .i64 m.s.op,.int .i64 m.s.line,.string (bs m.s.from_),.string (bs m.s.mode),.bool m.s.force,m.vp,.bool m.s.bare,m.vw,m.vd,m.ve]] w fun r w'=>(∃ v,r=.returned v∧SlA w' v (Ck.textsL m.s).length (sc (Ck.textsL m.s)))∧Below w.heap.size w w':=by
 obtain ⟨s,vp,vw,vd,ve⟩:=m;have hcp:SlA w vp s.pairs.length (yV s.pairs):=hok.cp;have hcw:SlA w vw s.words.length (sc s.words):=hok.cw;have hcd:SlA w vd s.docs.length (yI s.docs):=hok.cd;have hce:SlA w ve s.exec.length (sc s.exec):=hok.ce;dsimp only at hn ⊢;clear hok;obtain ⟨Ap,kp,rfl⟩:=hcp.form;obtain ⟨Ad,kd,rfl⟩:=hcd.form;have hal:=(Ja w.heap.size w).alloc (Jd _) (.cells #[.int .i64 s.op,.int .i64 s.line,.string (bs s.from_),.string (bs s.mode),.bool s.force,.slice Ap s.pairs.length kp,.bool s.bare,vw,.slice Ad s.docs.length kd,ve] 41);have hk:=Blk.new w 41 #[.int .i64 s.op,.int .i64 s.line,.string (bs s.from_),.string (bs s.mode),.bool s.force,.slice Ap s.pairs.length kp,.bool s.bare,vw,.slice Ad s.docs.length kd,ve];obtain ⟨w1,hw1⟩:∃ x,w.alloc (.cells #[.int .i64 s.op,.int .i64 s.line,.string (bs s.from_),.string (bs s.mode),.bool s.force,.slice Ap s.pairs.length kp,.bool s.bare,vw,.slice Ad s.docs.length kd,ve] 41)=x:=⟨_,rfl⟩
 have hz1:w1.heap.size=w.heap.size+1:=by rw [←hw1,Jb]
 rw [hw1] at hal hk;have HW1:=hY hw1;have HAL:=hY hal;have HK:=hY hk;have HP1:=hY (hcp.new hal);have HV1:=hY (hcw.new hal);have HD1:=hY (hcd.new hal);have HE1:=hY (hce.new hal);have HZ1:=hY hz1;have hsz1:w.heap.size+1≤w1.heap.size:=by omega
 have LW:Hid ((sc s.words).length=s.words.length*1):=hY (by rw [Zb,Kq]);have LE:Hid ((sc s.exec).length=s.exec.length*1):=hY (by rw [Zb,Kq]);clear hw1 hal hk hz1 hcp hcw hcd hce;go_enter Tryz.func82,Tryz.ntmps82;go_upto_region 1 with fail;rw [HW1.out];have b2:w1.cell? ⟨w.heap.size,2,none⟩=some (.string (bs s.from_)):=HK.out.cell 2;have b3:w1.cell? ⟨w.heap.size,3,none⟩=some (.string (bs s.mode)):=HK.out.cell 3;have HO0:=hY (X6 w1 (w.heap.size+1) [.string (bs s.from_),.string (bs s.mode)] 9 2 rfl (by omega) hsz1);have HB0:=hY ((Ja (w.heap.size+1) w1).alloc hsz1 (.cells #[.string (bs s.from_),.string (bs s.mode)] 9));have HSW:=hY (HV1.out.new ((Ja w1.heap.size w1).alloc (Jd _) (.cells #[.string (bs s.from_),.string (bs s.mode)] 9)));have HSZ:Hid (w.heap.size+1≤(w1.alloc (.cells #[.string (bs s.from_),.string (bs s.mode)] 9)).heap.size):=hY (by rw [Jb];omega);have b7:(w1.alloc (.cells #[.string (bs s.from_),.string (bs s.mode)] 9)).cell? ⟨w.heap.size,7,none⟩=some vw:=(HK.out.alloc _).cell 7
 go_wp2_with (at_builtin;first | (refine zp rfl _ _ _ rfl Yz (w.heap.size+1) _ 2 [.string (bs s.from_),.string (bs s.mode)] rfl HO0.out vw s.words.length (sc s.words) rfl HSW.out LW.out (YD _) (by omega) (by omega) HB0.out HSZ.out ?_;intro v1 w2 ho1 hb1 hg1 hat1;have HO2:=hY ho1;have HB2:=hY hb1;have hk2:=HK.out.below hb1 (by omega);have HSE:=hY (Z5 HZ1.out hb1 HE1.out);have b9:w2.cell? ⟨w.heap.size,9,none⟩=some ve:=hk2.cell 9;clear ho1 hb1 hg1 hat1 hk2) | (refine zp rfl _ _ _ rfl Yz (w.heap.size+1) _ (2+s.words.length) _ rfl HO2.out ve s.exec.length (sc s.exec) rfl HSE.out LE.out (YD _) (by omega) (by omega) HB2.out (Jg hsz1 HB2.out.size) ?_;intro v2 w3 ho2 hb2 hg2 hat2;have HO3:=hY ho2;have HB3:=hY hb2;have b5:w3.cell? ⟨w.heap.size,5,none⟩=some (.slice Ap s.pairs.length kp):=(HK.out.below hb2 (by omega)).cell 5;clear ho2 hb2 hg2 hat2));have HOc:Hid (w3.ownsRow (w.heap.size+1) 9 1 v2 ([s.from_,s.mode]++s.words++s.exec).length (sc ([s.from_,s.mode]++s.words++s.exec))):=hY (by have h:=HO3.out;rw [show ([.string (bs s.from_),.string (bs s.mode)]:List Value)=sc [s.from_,s.mode] from rfl,←zG,←zG] at h;rw [show ([s.from_,s.mode]++s.words++s.exec).length=2+s.words.length+s.exec.length by simp only [Jf,Ji,Jp]];exact h);obtain ⟨L0,hL0⟩:∃ L,[s.from_,s.mode]++s.words++s.exec=L:=⟨_,rfl⟩
 rw [hL0] at HOc;have hl0:L0.length=2+s.words.length+s.exec.length:=by rw [←hL0];simp only [Jf,Ji,Jp]
 have HTX:Hid (Ck.textsL s=L0++Qn s.pairs++jt s.docs):=hY (by rw [←hL0];rfl);have hnp:s.pairs.length≤1050000:=by omega
 have hnd:s.docs.length≤1050000:=by omega
 have hnn:L0.length+s.pairs.length+s.docs.length≤1050002:=by omega
 clear hL0 hl0 b2 b3 b7 b9 HO0 HB0 HSW HSZ LW LE HO2 HB2 HSE HO3;go_wp2_with fail;go_loopw [3,4] (fun t3 t4 wr=>∃ (i:Nat) (L:List (List UInt8)),i≤s.pairs.length∧t4=.int .i64 (i:Int)∧Hid (wr.ownsRow (w.heap.size+1) 9 1 t3 L.length (sc L))∧Hid (L=L0++Qn (s.pairs.take i))∧L.length≤L0.length+2*i∧Hid (Below (w.heap.size+1) w1 wr)) (fun _ t4 _=>s.pairs.length - (intOf t4).toNat)
 case atStart=>exact ⟨0,L0,by omega,rfl,HOc,hY (by simp [Qn]),by omega,HB3⟩
 case round =>
  rename World=>wr;obtain ⟨i,L,hip,rfl,HOp,HLp,hlp,HBp⟩:=hrel;clear HOc HB3 b5;obtain ⟨A4,c4,hv⟩:=zc HOp.out;subst hv;have j0:(0:Int)≤(i:Int):=by omega
  rcases Jh i s.pairs.length with hin | hin
  · have i0:decide ((i:Int)<(s.pairs.length:Int))=true:=dT (by omega);have i1:(i:Int)<(s.pairs.length:Int):=by omega
    have b5:wr.cell? ⟨w.heap.size,5,none⟩=some (.slice Ap s.pairs.length kp):=(HK.out.below HBp.out (by omega)).cell 5;have hX:=Z5 HZ1.out HBp.out HP1.out;obtain ⟨g,o,c,hv,c0,c1⟩:=ZB hX hin;injection hv with hA _ hcc;subst hA hcc;have HSN:=hY (WO s.pairs i hin);obtain ⟨x,hx⟩:∃ x,s.pairs[i].key=x:=⟨_,rfl⟩
    obtain ⟨y,hy⟩:∃ x,s.pairs[i].val=x:=⟨_,rfl⟩
    have HCC:Hid (∀ wx,Below wr.heap.size wr wx→wx.cell? ⟨g,o+i*2,none⟩=some (.string (bs x))∧wx.cell? ⟨g,o+i*2+1,none⟩=some (.string (bs y))):=hY (fun wx hS=>by obtain ⟨g2,o2,c2,hv2,a0,a1⟩:=ZB (hX.new hS) hin;injection hv2 with q1 _ _;injection q1 with q1;injection q1 with q1 q2 _;subst q1 q2;rw [←hx,←hy];exact ⟨a0,a1⟩);rw [hx,hy] at HSN;clear hX c0 c1 hx hy;go_upto_region 7 with fail;clear b5;refine' yE 14 (fun wx=>Below wr.heap.size wr wx) (VX [.slice A4 L.length c4,.pointer (some ⟨w.heap.size,5,none⟩),.slice (some ⟨g,o,none⟩) s.pairs.length kp,.int .i64 (i:Int),.pointer (some ⟨g,o+i*2,none⟩),.pointer (some ⟨g,o+i*2,none⟩),.string (bs x),.pointer (some ⟨w.heap.size,5,none⟩),.slice (some ⟨g,o,none⟩) s.pairs.length kp,.int .i64 (i:Int),.pointer (some ⟨g,o+i*2,none⟩),.pointer (some ⟨g,o+i*2+1,none⟩),.string (bs y)] #[.string (bs x),.string (bs y)]) ?Fp ?hFp (by kernel_rfl) (by kernel_rfl) (by kernel_rfl) (by decide) (by kernel_rfl) (by kernel_rfl) (by kernel_rfl) (Ja _ _).drew ?hstepsp ?hTp
    case hFp =>intro xs hx;have h15:xs 15=.slice A4 L.length c4:=(hx 15 (by decide)).trans rfl;refine (zz _ _ _).trans ?_;simp only [zR,Act.put,List.setIfInBounds_toArray,List.set_cons_zero,List.set_cons_succ,Nat.reduceAdd,Jq];rw [h15]
    case hstepsp =>
     simp only [List.take_succ_cons,List.take_zero];refine Steps.c (n:=[]) (k:=1) (fun xs wx hS hV K hK=>?_) ?_
     · clear hV;go_simp;exact hK.out _ _ hS rfl (fun _ _ h=>h)
     refine Steps.c (n:=[]) (k:=2) (fun xs wx hS hV K hK=>?_) ?_
     · clear hV;go_simp;exact hK.out _ _ hS rfl (fun _ _ h=>h)
     refine Steps.c (n:=[1]) (k:=3) (fun xs wx hS hV K hK=>?_) ?_
     · obtain ⟨d1,-⟩:=hV;replace d1:xs 1=.pointer (some ⟨w.heap.size,5,none⟩):=(Jc d1).symm;rw [d1] at hK ⊢;have b1:wx.cell? ⟨w.heap.size,5,none⟩=some (.slice (some ⟨g,o,none⟩) s.pairs.length kp):=((HK.out.below HBp.out (by omega)).below hS (HK.out.below HBp.out (by omega)).lt).cell 5;go_simp;exact hK.out _ _ hS rfl (fun _ _ h=>h)
     refine Steps.c (n:=[]) (k:=4) (fun xs wx hS hV K hK=>?_) ?_
     · clear hV;go_simp;exact hK.out _ _ hS rfl (fun _ _ h=>h)
     refine Steps.c (n:=[2,3]) (k:=5) (fun xs wx hS hV K hK=>?_) ?_
     · obtain ⟨d2,d3,-⟩:=hV;replace d2:xs 2=.slice (some ⟨g,o,none⟩) s.pairs.length kp:=(Jc d2).symm;replace d3:xs 3=.int .i64 (i:Int):=(Jc d3).symm;rw [d2,d3] at hK ⊢;go_simp;exact hK.out _ _ hS rfl (fun _ _ h=>h)
     refine Steps.c (n:=[4]) (k:=6) (fun xs wx hS hV K hK=>?_) ?_
     · obtain ⟨d4,-⟩:=hV;replace d4:xs 4=.pointer (some ⟨g,o+i*2,none⟩):=(Jc d4).symm;rw [d4] at hK ⊢;go_simp;exact hK.out _ _ hS rfl (fun _ _ h=>h)
     refine Steps.c (n:=[5]) (k:=7) (fun xs wx hS hV K hK=>?_) ?_
     · obtain ⟨d5,-⟩:=hV;replace d5:xs 5=.pointer (some ⟨g,o+i*2,none⟩):=(Jc d5).symm;rw [d5] at hK ⊢;obtain ⟨c0,c1⟩:=HCC.out wx hS;go_simp;exact hK.out _ _ hS rfl (fun _ _ h=>h)
     refine Steps.c (n:=[]) (k:=8) (fun xs wx hS hV K hK=>?_) ?_
     · clear hV;go_simp;exact hK.out _ _ hS rfl (fun _ _ h=>h)
     refine Steps.c (n:=[7]) (k:=9) (fun xs wx hS hV K hK=>?_) ?_
     · obtain ⟨d7,-⟩:=hV;replace d7:xs 7=.pointer (some ⟨w.heap.size,5,none⟩):=(Jc d7).symm;rw [d7] at hK ⊢;have b1:wx.cell? ⟨w.heap.size,5,none⟩=some (.slice (some ⟨g,o,none⟩) s.pairs.length kp):=((HK.out.below HBp.out (by omega)).below hS (HK.out.below HBp.out (by omega)).lt).cell 5;go_simp;exact hK.out _ _ hS rfl (fun _ _ h=>h)
     refine Steps.c (n:=[]) (k:=10) (fun xs wx hS hV K hK=>?_) ?_
     · clear hV;go_simp;exact hK.out _ _ hS rfl (fun _ _ h=>h)
     refine Steps.c (n:=[8,9]) (k:=11) (fun xs wx hS hV K hK=>?_) ?_
     · obtain ⟨d8,d9,-⟩:=hV;replace d8:xs 8=.slice (some ⟨g,o,none⟩) s.pairs.length kp:=(Jc d8).symm;replace d9:xs 9=.int .i64 (i:Int):=(Jc d9).symm;rw [d8,d9] at hK ⊢;go_simp;exact hK.out _ _ hS rfl (fun _ _ h=>h)
     refine Steps.c (n:=[10]) (k:=12) (fun xs wx hS hV K hK=>?_) ?_
     · obtain ⟨d10,-⟩:=hV;replace d10:xs 10=.pointer (some ⟨g,o+i*2,none⟩):=(Jc d10).symm;rw [d10] at hK ⊢;go_simp;exact hK.out _ _ hS rfl (fun _ _ h=>h)
     refine Steps.c (n:=[11]) (k:=13) (fun xs wx hS hV K hK=>?_) ?_
     · obtain ⟨d11,-⟩:=hV;replace d11:xs 11=.pointer (some ⟨g,o+i*2+1,none⟩):=(Jc d11).symm;rw [d11] at hK ⊢;obtain ⟨c0,c1⟩:=HCC.out wx hS;go_simp;exact hK.out _ _ hS rfl (fun _ _ h=>h)
     refine Steps.c (n:=[6,12]) (k:=14) (fun xs wx hS hV K hK=>?_) ?_
     · obtain ⟨d6,d12,-⟩:=hV;replace d6:xs 6=.string (bs x):=(Jc d6).symm;replace d12:xs 12=.string (bs y):=(Jc d12).symm;rw [d6,d12] at hK ⊢;go_simp;have hv7:∃ bk,(Value.slice (some ⟨wx.heap.size,0,none⟩) 2 2)=.slice (some ⟨bk,0,none⟩) 2 2∧Blk (wx.alloc (.cells #[.string (bs x),.string (bs y)] 9)) bk 9 #[.string (bs x),.string (bs y)]:=⟨_,rfl,Blk.new _ _ _⟩
       exact hK.out (.slice (some ⟨wx.heap.size,0,none⟩) 2 2) (wx.alloc (.cells #[.string (bs x),.string (bs y)] 9)) (hS.alloc hS.size _) hv7 (fun j u H=>VX.new ((Ja wx.heap.size wx).alloc (Jd _) (.cells #[.string (bs x),.string (bs y)] 9)) j u H)
     exact Steps.nil
    case hTp =>
     intro xs w8 hS hV;have d0:xs 0=.slice A4 L.length c4:=(Jc (hV 0 (by decide))).symm;obtain ⟨bk,d7,hbk⟩:∃ bk,xs 13=.slice (some ⟨bk,0,none⟩) 2 2∧Blk w8 bk 9 #[.string (bs x),.string (bs y)]:=hV 13 (by decide);simp only [List.drop_succ_cons,Jw];rw [d0,d7];have HO8:=hY (zy HOp.out hS);have HBK:=hY hbk;have HB8:=hY (HBp.out.trans (hS.mono (Jg hsz1 HBp.out.size)));have hsz8:w.heap.size+1≤w8.heap.size:=Jg hsz1 HB8.out.size;clear hV d0 d7 hbk hS HOp HBp;go_wp2_with (at_builtin;refine zp rfl _ _ _ rfl Yz (w.heap.size+1) _ L.length (sc L) rfl HO8.out _ 2 [.string (bs x),.string (bs y)] rfl (SlA.blk (cs:=[.string (bs x),.string (bs y)]) HBK.out) rfl YC (by omega) (by omega) HB8.out hsz8 ?_;intro v1 w9 ho1 hb1 hg1 hat1;have HO9:=hY ho1;have HB9:=hY hb1;clear ho1 hb1 hg1 hat1);have HOn:Hid (w9.ownsRow (w.heap.size+1) 9 1 v1 (L++[x,y]).length (sc (L++[x,y]))):=hY (by rw [zG,Jf];exact HO9.out);have HLn:Hid (L++[x,y]=L0++Qn (s.pairs.take (i+1))):=hY (by rw [HSN.out,HLp.out,Kv]);go_roundw
     case rel=>first | exact ⟨i+1,_,by omega,by go_num,HOn,HLn,by simp only [Jf,Ji,Jp];omega,HB9⟩ | exact ⟨_,_,⟨i+1,_,by omega,by go_num,HOn,HLn,by simp only [Jf,Ji,Jp];omega,HB9⟩,rfl,rfl⟩
     case measure=>simp [intOf];omega
  · have i0p:decide ((i:Int)<(s.pairs.length:Int))=false:=dF (by omega);have e0p:decide (i<s.pairs.length)=false:=dF (by omega);have b5:wr.cell? ⟨w.heap.size,5,none⟩=some (.slice Ap s.pairs.length kp):=(HK.out.below HBp.out (by omega)).cell 5;have HLp:Hid (L=L0++Qn s.pairs):=hY (by rw [HLp.out,List.take_of_length_le hin]);have hLl:L.length≤L0.length+2*s.pairs.length:=by omega
    have b8:wr.cell? ⟨w.heap.size,8,none⟩=some (.slice Ad s.docs.length kd):=(HK.out.below HBp.out (by omega)).cell 8;go_wp2_with fail;go_loopw [3,5] (fun t3 t5 wq=>∃ (j:Nat) (M:List (List UInt8)),j≤s.docs.length∧t5=.int .i64 (j:Int)∧Hid (wq.ownsRow (w.heap.size+1) 9 1 t3 M.length (sc M))∧Hid (M=L++jt (s.docs.take j))∧M.length≤L.length+2*j∧Hid (Below (w.heap.size+1) w1 wq)) (fun _ t5 _=>s.docs.length - (intOf t5).toNat)
    case atStart=>exact ⟨0,L,by omega,rfl,HOp,hY (by simp [jt]),by omega,HBp⟩
    case round =>
     rename World=>wq;obtain ⟨j,M,hid,rfl,HOd,HLd,hld,HBd⟩:=hrel;clear HOp HBp b8;obtain ⟨A4,c4,hv⟩:=zc HOd.out;subst hv;have j0:(0:Int)≤(j:Int):=by omega
     rcases Jh j s.docs.length with hin | hin
     · have i0:decide ((j:Int)<(s.docs.length:Int))=true:=dT (by omega);have i1:(j:Int)<(s.docs.length:Int):=by omega
       have b5:wq.cell? ⟨w.heap.size,8,none⟩=some (.slice Ad s.docs.length kd):=(HK.out.below HBd.out (by omega)).cell 8;have hX:=Z5 HZ1.out HBd.out HD1.out;obtain ⟨g,o,c,hv,c0,_,_,c1⟩:=ZH hX hin;injection hv with hA _ hcc;subst hA hcc;have HSN:=hY (Vi s.docs j hin);obtain ⟨x,hx⟩:∃ x,s.docs[j].name=x:=⟨_,rfl⟩
       obtain ⟨y,hy⟩:∃ x,s.docs[j].text=x:=⟨_,rfl⟩
       have HCC:Hid (∀ wx,Below wq.heap.size wq wx→wx.cell? ⟨g,o+j*4,none⟩=some (.string (bs x))∧wx.cell? ⟨g,o+j*4+3,none⟩=some (.string (bs y))):=hY (fun wx hS=>by obtain ⟨g2,o2,c2,hv2,a0,_,_,a1⟩:=ZH (hX.new hS) hin;injection hv2 with q1 _ _;injection q1 with q1;injection q1 with q1 q2 _;subst q1 q2;rw [←hx,←hy];exact ⟨a0,a1⟩);rw [hx,hy] at HSN;clear hX c0 c1 hx hy;go_upto_region 11 with fail;clear b5;refine' yE 14 (fun wx=>Below wq.heap.size wq wx) (VX [.slice A4 M.length c4,.pointer (some ⟨w.heap.size,8,none⟩),.slice (some ⟨g,o,none⟩) s.docs.length kd,.int .i64 (j:Int),.pointer (some ⟨g,o+j*4,none⟩),.pointer (some ⟨g,o+j*4,none⟩),.string (bs x),.pointer (some ⟨w.heap.size,8,none⟩),.slice (some ⟨g,o,none⟩) s.docs.length kd,.int .i64 (j:Int),.pointer (some ⟨g,o+j*4,none⟩),.pointer (some ⟨g,o+j*4+3,none⟩),.string (bs y)] #[.string (bs x),.string (bs y)]) ?Fd ?hFd (by kernel_rfl) (by kernel_rfl) (by kernel_rfl) (by decide) (by kernel_rfl) (by kernel_rfl) (by kernel_rfl) (Ja _ _).drew ?hstepsd ?hTd
       case hFd =>intro xs hx;have h15:xs 15=.slice A4 M.length c4:=(hx 15 (by decide)).trans rfl;refine (zz _ _ _).trans ?_;simp only [zR,Act.put,List.setIfInBounds_toArray,List.set_cons_zero,List.set_cons_succ,Nat.reduceAdd,Jq];rw [h15]
       case hstepsd =>
        simp only [List.take_succ_cons,List.take_zero];refine Steps.c (n:=[]) (k:=1) (fun xs wx hS hV K hK=>?_) ?_
        · clear hV;go_simp;exact hK.out _ _ hS rfl (fun _ _ h=>h)
        refine Steps.c (n:=[]) (k:=2) (fun xs wx hS hV K hK=>?_) ?_
        · clear hV;go_simp;exact hK.out _ _ hS rfl (fun _ _ h=>h)
        refine Steps.c (n:=[1]) (k:=3) (fun xs wx hS hV K hK=>?_) ?_
        · obtain ⟨d1,-⟩:=hV;replace d1:xs 1=.pointer (some ⟨w.heap.size,8,none⟩):=(Jc d1).symm;rw [d1] at hK ⊢;have b1:wx.cell? ⟨w.heap.size,8,none⟩=some (.slice (some ⟨g,o,none⟩) s.docs.length kd):=((HK.out.below HBd.out (by omega)).below hS (HK.out.below HBd.out (by omega)).lt).cell 8;go_simp;exact hK.out _ _ hS rfl (fun _ _ h=>h)
        refine Steps.c (n:=[]) (k:=4) (fun xs wx hS hV K hK=>?_) ?_
        · clear hV;go_simp;exact hK.out _ _ hS rfl (fun _ _ h=>h)
        refine Steps.c (n:=[2,3]) (k:=5) (fun xs wx hS hV K hK=>?_) ?_
        · obtain ⟨d2,d3,-⟩:=hV;replace d2:xs 2=.slice (some ⟨g,o,none⟩) s.docs.length kd:=(Jc d2).symm;replace d3:xs 3=.int .i64 (j:Int):=(Jc d3).symm;rw [d2,d3] at hK ⊢;go_simp;exact hK.out _ _ hS rfl (fun _ _ h=>h)
        refine Steps.c (n:=[4]) (k:=6) (fun xs wx hS hV K hK=>?_) ?_
        · obtain ⟨d4,-⟩:=hV;replace d4:xs 4=.pointer (some ⟨g,o+j*4,none⟩):=(Jc d4).symm;rw [d4] at hK ⊢;go_simp;exact hK.out _ _ hS rfl (fun _ _ h=>h)
        refine Steps.c (n:=[5]) (k:=7) (fun xs wx hS hV K hK=>?_) ?_
        · obtain ⟨d5,-⟩:=hV;replace d5:xs 5=.pointer (some ⟨g,o+j*4,none⟩):=(Jc d5).symm;rw [d5] at hK ⊢;obtain ⟨c0,c1⟩:=HCC.out wx hS;go_simp;exact hK.out _ _ hS rfl (fun _ _ h=>h)
        refine Steps.c (n:=[]) (k:=8) (fun xs wx hS hV K hK=>?_) ?_
        · clear hV;go_simp;exact hK.out _ _ hS rfl (fun _ _ h=>h)
        refine Steps.c (n:=[7]) (k:=9) (fun xs wx hS hV K hK=>?_) ?_
        · obtain ⟨d7,-⟩:=hV;replace d7:xs 7=.pointer (some ⟨w.heap.size,8,none⟩):=(Jc d7).symm;rw [d7] at hK ⊢;have b1:wx.cell? ⟨w.heap.size,8,none⟩=some (.slice (some ⟨g,o,none⟩) s.docs.length kd):=((HK.out.below HBd.out (by omega)).below hS (HK.out.below HBd.out (by omega)).lt).cell 8;go_simp;exact hK.out _ _ hS rfl (fun _ _ h=>h)
        refine Steps.c (n:=[]) (k:=10) (fun xs wx hS hV K hK=>?_) ?_
        · clear hV;go_simp;exact hK.out _ _ hS rfl (fun _ _ h=>h)
        refine Steps.c (n:=[8,9]) (k:=11) (fun xs wx hS hV K hK=>?_) ?_
        · obtain ⟨d8,d9,-⟩:=hV;replace d8:xs 8=.slice (some ⟨g,o,none⟩) s.docs.length kd:=(Jc d8).symm;replace d9:xs 9=.int .i64 (j:Int):=(Jc d9).symm;rw [d8,d9] at hK ⊢;go_simp;exact hK.out _ _ hS rfl (fun _ _ h=>h)
        refine Steps.c (n:=[10]) (k:=12) (fun xs wx hS hV K hK=>?_) ?_
        · obtain ⟨d10,-⟩:=hV;replace d10:xs 10=.pointer (some ⟨g,o+j*4,none⟩):=(Jc d10).symm;rw [d10] at hK ⊢;go_simp;exact hK.out _ _ hS rfl (fun _ _ h=>h)
        refine Steps.c (n:=[11]) (k:=13) (fun xs wx hS hV K hK=>?_) ?_
        · obtain ⟨d11,-⟩:=hV;replace d11:xs 11=.pointer (some ⟨g,o+j*4+3,none⟩):=(Jc d11).symm;rw [d11] at hK ⊢;obtain ⟨c0,c1⟩:=HCC.out wx hS;go_simp;exact hK.out _ _ hS rfl (fun _ _ h=>h)
        refine Steps.c (n:=[6,12]) (k:=14) (fun xs wx hS hV K hK=>?_) ?_
        · obtain ⟨d6,d12,-⟩:=hV;replace d6:xs 6=.string (bs x):=(Jc d6).symm;replace d12:xs 12=.string (bs y):=(Jc d12).symm;rw [d6,d12] at hK ⊢;go_simp;have hv7:∃ bk,(Value.slice (some ⟨wx.heap.size,0,none⟩) 2 2)=.slice (some ⟨bk,0,none⟩) 2 2∧Blk (wx.alloc (.cells #[.string (bs x),.string (bs y)] 9)) bk 9 #[.string (bs x),.string (bs y)]:=⟨_,rfl,Blk.new _ _ _⟩
          exact hK.out (.slice (some ⟨wx.heap.size,0,none⟩) 2 2) (wx.alloc (.cells #[.string (bs x),.string (bs y)] 9)) (hS.alloc hS.size _) hv7 (fun j u H=>VX.new ((Ja wx.heap.size wx).alloc (Jd _) (.cells #[.string (bs x),.string (bs y)] 9)) j u H)
        exact Steps.nil
       case hTd =>
        intro xs w8 hS hV;have d0:xs 0=.slice A4 M.length c4:=(Jc (hV 0 (by decide))).symm;obtain ⟨bk,d7,hbk⟩:∃ bk,xs 13=.slice (some ⟨bk,0,none⟩) 2 2∧Blk w8 bk 9 #[.string (bs x),.string (bs y)]:=hV 13 (by decide);simp only [List.drop_succ_cons,Jw];rw [d0,d7];have HO8:=hY (zy HOd.out hS);have HBK:=hY hbk;have HB8:=hY (HBd.out.trans (hS.mono (Jg hsz1 HBd.out.size)));have hsz8:w.heap.size+1≤w8.heap.size:=Jg hsz1 HB8.out.size;clear hV d0 d7 hbk hS HOd HBd;go_wp2_with (at_builtin;refine zp rfl _ _ _ rfl Yz (w.heap.size+1) _ M.length (sc M) rfl HO8.out _ 2 [.string (bs x),.string (bs y)] rfl (SlA.blk (cs:=[.string (bs x),.string (bs y)]) HBK.out) rfl YC (by omega) (by omega) HB8.out hsz8 ?_;intro v1 w9 ho1 hb1 hg1 hat1;have HO9:=hY ho1;have HB9:=hY hb1;clear ho1 hb1 hg1 hat1);have HOn:Hid (w9.ownsRow (w.heap.size+1) 9 1 v1 (M++[x,y]).length (sc (M++[x,y]))):=hY (by rw [zG,Jf];exact HO9.out);have HLn:Hid (M++[x,y]=L++jt (s.docs.take (j+1))):=hY (by rw [HSN.out,HLd.out,Kv]);go_roundw
        case rel=>first | exact ⟨j+1,_,by omega,by go_num,HOn,HLn,by simp only [Jf,Ji,Jp];omega,HB9⟩ | exact ⟨_,_,⟨j+1,_,by omega,by go_num,HOn,HLn,by simp only [Jf,Ji,Jp];omega,HB9⟩,rfl,rfl⟩
        case measure=>simp [intOf];omega
     · have i0d:decide ((j:Int)<(s.docs.length:Int))=false:=dF (by omega);have e0d:decide (j<s.docs.length)=false:=dF (by omega);have b5:wq.cell? ⟨w.heap.size,8,none⟩=some (.slice Ad s.docs.length kd):=(HK.out.below HBd.out (by omega)).cell 8;have HME:Hid (Ck.textsL s=M):=hY (by rw [HTX.out,HLd.out,List.take_of_length_le hin,HLp.out]);have HSM:=hY (SlA.own HOd.out);have HE:=hY (HAL.out.trans (HBd.out.mono (by omega)));go_wp2_with fail;go_ret;refine ⟨⟨_,rfl,?_⟩,HE.out⟩;rw [HME.out];exact HSM.out
end Go.Proofs.YtdaejggcjjdhkaaGreatDoor
