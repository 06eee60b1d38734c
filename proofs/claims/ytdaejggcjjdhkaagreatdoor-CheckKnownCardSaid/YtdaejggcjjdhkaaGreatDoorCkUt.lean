/- stratalaw18.upTo, walked. (Printed by wip/genupto.py.) -/
import Derived.Test.YtdaejggcjjdhkaaGreatDoorCkZi
import Derived.Test.YtdaejggcjjdhkaaGreatDoorMkB
import Derived.Test.YtdaejggcjjdhkaaGreatDoorMkD
set_option maxHeartbeats 2000000
set_option maxRecDepth 100000
namespace Go.Proofs.YtdaejggcjjdhkaaGreatDoor
open Go Go.RowKit
def UY (b:Int) (m:SM):Bool:=decide (m.s.line≤b)
theorem XL {α:Type} (p:α→Bool) (l:List α) (i:Nat) (hi:i<l.length):(l.take (i+1)).filter p=(l.take i).filter p++(if p l[i] then [l[i]] else []):=by
 rw [List.take_succ_eq_append_getElem hi,List.filter_append];congr 1
 by_cases h:p l[i] <;> simp [h]
theorem Vv (b:Int):∀ l:List SM,(l.filter (UY b)).map SM.s=Ck.upSt b (l.map SM.s)
 | []=>rfl
 | m::l=>by
  have ih:=Vv b l;unfold Ck.upSt at ih ⊢;rw [List.map_cons,List.filter_cons,List.filter_cons]
  by_cases h:m.s.line≤b
  · rw [if_pos (by simpa [UY] using h),if_pos (by simpa using h),List.map_cons,ih]
  · rw [if_neg (by simpa [UY] using h),if_neg (by simpa using h),ih]
theorem Wv (b:Int) (l:List Ck.Sg) (g:Ck.Sg):Ck.upG b (l++[g])=Ck.upG b l++(if g.line≤b then [{ g with steps:=Ck.upSt b g.steps }] else []):=by
 unfold Ck.upG;rw [List.filter_append,List.map_append];congr 1
 by_cases h:g.line≤b <;> simp [h]
theorem WT {w:World} {b b':Nat} {e:TypeId} {k n:Nat} {v:Value} {xs:List Value} (h:w.ownsRow b e k v n xs) (hb:b'≤b):w.ownsRow b' e k v n xs:=by
 refine ⟨h.1,?_⟩;rcases h.2 with q | ⟨g,cap,cur,q1,q2,q3⟩
 · exact .inl q
 · exact .inr ⟨g,cap,cur,q1,Jg hb q2,q3⟩
theorem Va {α:Type} (p:α→Bool) (l:List α):(l.filter p).length≤l.length:=(List.filter_sublist).length_le
def VB (l:List Value) (T:Array Value):Nat→Value→World→Prop
 | 7,u,w=>∃ bk,u=.slice (some ⟨bk,0,none⟩) 1 1∧Blk w bk 41 T
 | i,u,_=>l[i]?=some u
theorem VB.new {l:List Value} {T:Array Value} {w w':World} (k:Below w.heap.size w w') (j:Nat) (u:Value) (H:VB l T j u w):VB l T j u w':=by
 unfold VB at H ⊢
 split at H
 · obtain ⟨bk,e,h⟩:=H;exact ⟨bk,e,h.below k h.lt⟩
 · exact H
theorem YI (f:FM) (b:Int) (w:World) (hok:f.Ok w) (hsm:f.fl.Small) (hb1:-1000000000000≤b) (hb2:b≤1000000000000):
  Calls Tryz.prog 24 #[.agg #[.int .u8 (f.escape.toNat:Int),f.va,f.vg],.int .i64 b] w (UJ (Ck.upTo b f.fl) w):=by
 have hcnt:=yg f;obtain ⟨e,va,args,vg,stages⟩:=f;have hca:StsA w va args:=hok.a;have hcg:GsA w vg stages:=hok.g;obtain ⟨hsa,hsg,hsn⟩:=hsm;dsimp only at hcnt ⊢;clear hok;obtain ⟨Aa,ka,rfl⟩:=hca.1.form;obtain ⟨Ag,kg,rfl⟩:=hcg.1.form;rw [hcnt,show (FM.fl ⟨e,.slice Aa args.length ka,args,.slice Ag stages.length kg,stages⟩).stages.length=stages.length from Jo _] at hsn;have HA0:=hY hca;have HG0:=hY hcg;have HFL:Hid (Ck.upTo b (FM.fl ⟨e,.slice Aa args.length ka,args,.slice Ag stages.length kg,stages⟩)=⟨e,Ck.upSt b (args.map SM.s),if Ck.upG b (stages.map GM.sg)=[] then [⟨b+1,Ck.scratch,[],[]⟩] else Ck.upG b (stages.map GM.sg)⟩):=hY rfl;have HML:Hid (∀ g∈stages,g.ms.length≤1050000):=hY fun g hg=>by
  have:∀ (l:List GM),g∈l→g.ms.length≤(l.map fun g=>g.ms.length).sum:=fun l=>by
   induction l with
   | nil=>intro h;cases h
   | cons x r ih =>
    intro h;rw [List.map_cons,List.sum_cons];rcases Kn.1 h with rfl | h
    · omega
    · have:=ih h;omega
  have:=this stages hg;omega
 obtain ⟨na,hna⟩:∃ n,args.length=n:=⟨_,rfl⟩
 obtain ⟨ng,hng⟩:∃ n,stages.length=n:=⟨_,rfl⟩
 rw [hna,hng] at hsn HFL;rw [hna] at HA0;rw [hng] at HG0;have HNA:=hY hna;have HNG:=hY hng;rw [hna,hng];have hna6:na≤1050000:=by omega
 have hng6:ng≤1050000:=by omega
 clear hna hng hsn hcnt hca hcg hsa hsg;go_enter Tryz.func24,Tryz.ntmps24;go_upto_region 2 with fail;obtain ⟨w1,hw1⟩:∃ y,(((w.alloc (.cells #[.int .u8 (e.toNat:Int),.slice Aa na ka,.slice Ag ng kg] 25)).alloc (.cells #[.int .u8 0,.slice none 0 0,.slice none 0 0] 25)).alloc (.cells #[.int .u8 (e.toNat:Int),.slice none 0 0,.slice none 0 0] 25))=y:=⟨_,rfl⟩
 have HB1:Hid (Below w.heap.size w w1):=hY (by rw [←hw1];exact (((Ja w.heap.size w).alloc (Jd _) _).alloc (by simp only [Jb];omega) _).alloc (by simp only [Jb];omega) _);have hz1:w1.heap.size=w.heap.size+1+1+1:=by rw [←hw1];simp only [Jb]
 have HZ1:=hY hz1;have KI:Hid (Blk w1 (w.heap.size) 25 #[.int .u8 (e.toNat:Int),.slice Aa na ka,.slice Ag ng kg]):=hY (by
  have q:=Blk.new w 25 #[.int .u8 (e.toNat:Int),.slice Aa na ka,.slice Ag ng kg]
  try simp only [Jb] at q
  rw [←hw1];exact ((q.alloc _).alloc _))
 have KZ:Hid (Blk w1 (w.heap.size+1) 25 #[.int .u8 0,.slice none 0 0,.slice none 0 0]):=hY (by
  have q:=Blk.new (w.alloc (.cells #[.int .u8 (e.toNat:Int),.slice Aa na ka,.slice Ag ng kg] 25)) 25 #[.int .u8 0,.slice none 0 0,.slice none 0 0]
  try simp only [Jb] at q
  rw [←hw1];exact (q.alloc _))
 have KF:Hid (Blk w1 (w.heap.size+1+1) 25 #[.int .u8 (e.toNat:Int),.slice none 0 0,.slice none 0 0]):=hY (by
  have q:=Blk.new ((w.alloc (.cells #[.int .u8 (e.toNat:Int),.slice Aa na ka,.slice Ag ng kg] 25)).alloc (.cells #[.int .u8 0,.slice none 0 0,.slice none 0 0] 25)) 25 #[.int .u8 (e.toNat:Int),.slice none 0 0,.slice none 0 0]
  try simp only [Jb] at q
  rw [←hw1];exact q)
 rw [hw1];have HF1:Hid (FB w (w.heap.size+1+1+1) (w.heap.size+1+1) e (.slice none 0 0) (.slice none 0 0) [] [] w1):=hY ⟨KF.out,Zl _ _ _ _,Zl _ _ _ _,(fun g hg=>by cases hg),(fun m hm=>by cases hm),(fun g hg=>by cases hg),by omega,HB1.out,by omega,by omega⟩;have HBL:Hid (Below (w.heap.size+1+1) w1 w1):=hY (Ja _ _);clear hw1 hz1 KF;go_wp2_with fail;go_loopw [6] (fun t6 wr=>∃ (i:Nat) (vA:Value) (lA:List SM),i≤na∧t6=.int .i64 (i:Int)∧Hid (FB w (w.heap.size+1+1+1) (w.heap.size+1+1) e vA (.slice none 0 0) lA [] wr)∧Hid (Below (w.heap.size+1+1) w1 wr)∧Hid (lA=(args.take i).filter (UY b))) (fun t6 _=>na - (intOf t6).toNat)
 case atStart=>exact ⟨0,_,[],by omega,rfl,HF1,HBL,hY (by simp)⟩
 case round =>
  clear HF1 HBL;rename World=>wr;obtain ⟨i,vA,lA,hi,rfl,HF,HB,HL⟩:=hrel;have j0:(0:Int)≤(i:Int):=by omega
  rcases Jh i na with hin | hin
  · have i0:decide ((i:Int)<(na:Int))=true:=dT (by omega);have i1:(i:Int)<(na:Int):=by omega
    have hil:i<args.length:=by have:=HNA.out;omega
    have hX:=HA0.out.new HF.out.h0;rw [←HNA.out] at hX;have hmok:=HA0.out.2 _ (Jl hil);obtain ⟨g,o,c,s,Ap,Aw,Ad,Ae,kp,kw,kd,ke,hv,hse,c0,c1,c2,c3,c4,c5,c6,c7,c8,c9⟩:=yh hX hil;injection hv with hA _ hcc;subst hA hcc;have hft:=XL (UY b) args i hil;rw [hse] at hmok hft;have HMO:=hY hmok;have HFT:=hY hft;have HCC:Hid (∀ wx,Below wr.heap.size wr wx→wx.cell? ⟨g,o+i*10,none⟩=some (.int .i64 s.op)∧wx.cell? ⟨g,o+i*10+1,none⟩=some (.int .i64 s.line)∧wx.cell? ⟨g,o+i*10+2,none⟩=some (.string (bs s.from_))∧wx.cell? ⟨g,o+i*10+3,none⟩=some (.string (bs s.mode))∧wx.cell? ⟨g,o+i*10+4,none⟩=some (.bool s.force)∧wx.cell? ⟨g,o+i*10+5,none⟩=some (.slice Ap s.pairs.length kp)∧wx.cell? ⟨g,o+i*10+6,none⟩=some (.bool s.bare)∧wx.cell? ⟨g,o+i*10+7,none⟩=some (.slice Aw s.words.length kw)∧wx.cell? ⟨g,o+i*10+8,none⟩=some (.slice Ad s.docs.length kd)∧wx.cell? ⟨g,o+i*10+9,none⟩=some (.slice Ae s.exec.length ke)):=hY fun wx k=>⟨(k.cell (p:=⟨g,o+i*10,none⟩) (Je wr _ c0)).trans c0,(k.cell (p:=⟨g,o+i*10+1,none⟩) (Je wr _ c1)).trans c1,(k.cell (p:=⟨g,o+i*10+2,none⟩) (Je wr _ c2)).trans c2,(k.cell (p:=⟨g,o+i*10+3,none⟩) (Je wr _ c3)).trans c3,(k.cell (p:=⟨g,o+i*10+4,none⟩) (Je wr _ c4)).trans c4,(k.cell (p:=⟨g,o+i*10+5,none⟩) (Je wr _ c5)).trans c5,(k.cell (p:=⟨g,o+i*10+6,none⟩) (Je wr _ c6)).trans c6,(k.cell (p:=⟨g,o+i*10+7,none⟩) (Je wr _ c7)).trans c7,(k.cell (p:=⟨g,o+i*10+8,none⟩) (Je wr _ c8)).trans c8,(k.cell (p:=⟨g,o+i*10+9,none⟩) (Je wr _ c9)).trans c9⟩
    clear hX hse hmok hft hil c0 c2 c3 c4 c5 c6 c7 c8 c9;have b1:wr.cell? ⟨w.heap.size,1,none⟩=some (.slice (some ⟨g,o,none⟩) na ka):=(KI.out.below HB.out (by omega)).cell 1;obtain ⟨tt,htt⟩:∃ q,decide (s.line≤b)=q:=⟨_,rfl⟩
    have HON:Hid (UY b (⟨s,.slice Ap s.pairs.length kp,.slice Aw s.words.length kw,.slice Ad s.docs.length kd,.slice Ae s.exec.length ke⟩:SM)=tt):=hY htt;cases tt with
    | false =>
     have HL2:Hid (lA=(args.take (i+1)).filter (UY b)):=hY (by rw [HFT.out,HON.out,if_neg (by simp),Kw];exact HL.out);have htt':¬ s.line≤b:=of_decide_eq_false htt;go_wp2_with fail;go_roundw
     case rel=>first | exact ⟨i+1,vA,lA,by omega,by go_num,HF,HB,HL2⟩ | exact ⟨_,⟨i+1,vA,lA,by omega,by go_num,HF,HB,HL2⟩,rfl⟩
     case measure=>simp [intOf];omega
    | true =>
     have htt':s.line≤b:=of_decide_eq_true htt;have hll:lA.length≤i:=by rw [HL.out];exact Jg (Va _ _) (by rw [Kt];omega)
     obtain ⟨A1,q1,rfl⟩:=zc HF.out.rA;go_upto_region 6 with fail;clear b1 c1 htt htt';refine' zk 8 (fun wx=>Below wr.heap.size wr wx) (VB [.pointer (some ⟨w.heap.size+1+1,1,none⟩),.slice A1 lA.length q1,.pointer (some ⟨w.heap.size,1,none⟩),.slice (some ⟨g,o,none⟩) na ka,.int .i64 (i:Int),.pointer (some ⟨g,o+i*10,none⟩),.agg #[.int .i64 s.op,.int .i64 s.line,.string (bs s.from_),.string (bs s.mode),.bool s.force,.slice Ap s.pairs.length kp,.bool s.bare,.slice Aw s.words.length kw,.slice Ad s.docs.length kd,.slice Ae s.exec.length ke]] #[.int .i64 s.op,.int .i64 s.line,.string (bs s.from_),.string (bs s.mode),.bool s.force,.slice Ap s.pairs.length kp,.bool s.bare,.slice Aw s.words.length kw,.slice Ad s.docs.length kd,.slice Ae s.exec.length ke]) ?Fa ?hFa (by kernel_rfl) (by kernel_rfl) (by kernel_rfl) (by decide) (by kernel_rfl) (by kernel_rfl) (by kernel_rfl) (Ja _ _).drew ?hstepsa ?hTa
     case hFa =>intro xs;refine (zz _ _ _).trans ?_;simp only [zR,Act.put,List.setIfInBounds_toArray,List.set_cons_zero,List.set_cons_succ,Nat.reduceAdd,Jq];exact rfl
     case hstepsa =>
      simp only [List.take_succ_cons,List.take_zero];refine Steps.c (n:=[]) (k:=1) (fun xs wx hS hV K hK=>?_) ?_
      · clear hV;go_simp;exact hK.out _ _ hS rfl (fun _ _ h=>h)
      refine Steps.c (n:=[0]) (k:=2) (fun xs wx hS hV K hK=>?_) ?_
      · obtain ⟨d0,-⟩:=hV;replace d0:xs 0=.pointer (some ⟨w.heap.size+1+1,1,none⟩):=(Jc d0).symm;rw [d0] at hK ⊢;have b1:wx.cell? ⟨w.heap.size+1+1,1,none⟩=some (.slice A1 lA.length q1):=(HF.out.new hS).blk.cell 1;go_simp;exact hK.out _ _ hS rfl (fun _ _ h=>h)
      refine Steps.c (n:=[]) (k:=3) (fun xs wx hS hV K hK=>?_) ?_
      · clear hV;go_simp;exact hK.out _ _ hS rfl (fun _ _ h=>h)
      refine Steps.c (n:=[2]) (k:=4) (fun xs wx hS hV K hK=>?_) ?_
      · obtain ⟨d2,-⟩:=hV;replace d2:xs 2=.pointer (some ⟨w.heap.size,1,none⟩):=(Jc d2).symm;rw [d2] at hK ⊢;have b1:wx.cell? ⟨w.heap.size,1,none⟩=some (.slice (some ⟨g,o,none⟩) na ka):=((KI.out.below HB.out (by omega)).below hS (KI.out.below HB.out (by omega)).lt).cell 1;go_simp;exact hK.out _ _ hS rfl (fun _ _ h=>h)
      refine Steps.c (n:=[]) (k:=5) (fun xs wx hS hV K hK=>?_) ?_
      · clear hV;go_simp;exact hK.out _ _ hS rfl (fun _ _ h=>h)
      refine Steps.c (n:=[3,4]) (k:=6) (fun xs wx hS hV K hK=>?_) ?_
      · obtain ⟨d3,d4,-⟩:=hV;replace d3:xs 3=.slice (some ⟨g,o,none⟩) na ka:=(Jc d3).symm;replace d4:xs 4=.int .i64 (i:Int):=(Jc d4).symm;rw [d3,d4] at hK ⊢;go_simp;exact hK.out _ _ hS rfl (fun _ _ h=>h)
      refine Steps.c (n:=[5]) (k:=7) (fun xs wx hS hV K hK=>?_) ?_
      · obtain ⟨d5,-⟩:=hV;replace d5:xs 5=.pointer (some ⟨g,o+i*10,none⟩):=(Jc d5).symm;rw [d5] at hK ⊢;obtain ⟨c0,c1,c2,c3,c4,c5,c6,c7,c8,c9⟩:=HCC.out wx hS;go_simp;exact hK.out _ _ hS rfl (fun _ _ h=>h)
      refine Steps.c (n:=[6]) (k:=8) (fun xs wx hS hV K hK=>?_) ?_
      · obtain ⟨d6,-⟩:=hV;replace d6:xs 6=.agg #[.int .i64 s.op,.int .i64 s.line,.string (bs s.from_),.string (bs s.mode),.bool s.force,.slice Ap s.pairs.length kp,.bool s.bare,.slice Aw s.words.length kw,.slice Ad s.docs.length kd,.slice Ae s.exec.length ke]:=(Jc d6).symm;rw [d6] at hK ⊢;go_simp;have hv7:∃ bk,(Value.slice (some ⟨wx.heap.size,0,none⟩) 1 1)=.slice (some ⟨bk,0,none⟩) 1 1∧Blk (wx.alloc (.cells #[.int .i64 s.op,.int .i64 s.line,.string (bs s.from_),.string (bs s.mode),.bool s.force,.slice Ap s.pairs.length kp,.bool s.bare,.slice Aw s.words.length kw,.slice Ad s.docs.length kd,.slice Ae s.exec.length ke] 41)) bk 41 #[.int .i64 s.op,.int .i64 s.line,.string (bs s.from_),.string (bs s.mode),.bool s.force,.slice Ap s.pairs.length kp,.bool s.bare,.slice Aw s.words.length kw,.slice Ad s.docs.length kd,.slice Ae s.exec.length ke]:=⟨_,rfl,Blk.new _ _ _⟩
        exact hK.out (.slice (some ⟨wx.heap.size,0,none⟩) 1 1) (wx.alloc (.cells #[.int .i64 s.op,.int .i64 s.line,.string (bs s.from_),.string (bs s.mode),.bool s.force,.slice Ap s.pairs.length kp,.bool s.bare,.slice Aw s.words.length kw,.slice Ad s.docs.length kd,.slice Ae s.exec.length ke] 41)) (hS.alloc hS.size _) hv7 (fun j u H=>VB.new ((Ja wx.heap.size wx).alloc (Jd _) (.cells #[.int .i64 s.op,.int .i64 s.line,.string (bs s.from_),.string (bs s.mode),.bool s.force,.slice Ap s.pairs.length kp,.bool s.bare,.slice Aw s.words.length kw,.slice Ad s.docs.length kd,.slice Ae s.exec.length ke] 41)) j u H)
      exact Steps.nil
     case hTa =>
      intro xs w8 hS hV;have d1:xs 1=.slice A1 lA.length q1:=(Jc (hV 1 (by decide))).symm;obtain ⟨bk,d7,hbk⟩:∃ bk,xs 7=.slice (some ⟨bk,0,none⟩) 1 1∧Blk w8 bk 41 #[.int .i64 s.op,.int .i64 s.line,.string (bs s.from_),.string (bs s.mode),.bool s.force,.slice Ap s.pairs.length kp,.bool s.bare,.slice Aw s.words.length kw,.slice Ad s.docs.length kd,.slice Ae s.exec.length ke]:=hV 7 (by decide);simp only [List.drop_succ_cons,Jw];rw [d1,d7];have HF8:=hY (HF.out.new hS);have HBK:=hY hbk;have HB8:=hY (HB.out.trans (hS.mono (by have:=HF.out.size;omega)));have hsz8:=HF8.out.size;clear hV d1 d7 hbk hS HF HB;go_wp2_with (at_builtin;refine zp rfl _ _ _ rfl stpKe (w.heap.size+1+1+1) _ lA.length (yv lA) rfl HF8.out.rA _ 1 (ZN (⟨s,.slice Ap s.pairs.length kp,.slice Aw s.words.length kw,.slice Ad s.docs.length kd,.slice Ae s.exec.length ke⟩:SM)) rfl (SlA.blk (cs:=ZN (⟨s,.slice Ap s.pairs.length kp,.slice Aw s.words.length kw,.slice Ad s.docs.length kd,.slice Ae s.exec.length ke⟩:SM)) HBK.out) rfl (Zk HMO.out) (by omega) (by omega) (Ja _ _) hsz8 ?_;intro v1 w9 ho1 hb1 hg1 hat1;have hk9:=HF8.out.blk.below hb1 HF8.out.hG;have k9:w9.cell? ⟨w.heap.size+1+1,1,none⟩=some (.slice A1 lA.length q1):=hk9.cell 1;have f9:=hk9.frozen 1;have HP:=hY (HF8.out.pushA HMO.out ho1 hb1 hg1);have HQ:=hY (yo (HB8.out.trans (hb1.mono (by omega))) ⟨w.heap.size+1+1,1,none⟩ v1 (Jd _) (Jd _));obtain ⟨B1,q9,rfl⟩:=zc ho1;clear hk9 ho1 hb1 hg1 hat1);have HL2:Hid (lA++[(⟨s,.slice Ap s.pairs.length kp,.slice Aw s.words.length kw,.slice Ad s.docs.length kd,.slice Ae s.exec.length ke⟩:SM)]=(args.take (i+1)).filter (UY b)):=hY (by rw [HFT.out,HON.out,if_pos rfl,←HL.out]);go_roundw
      case rel=>first | exact ⟨i+1,_,_,by omega,by go_num,HP,HQ,HL2⟩ | exact ⟨_,⟨i+1,_,_,by omega,by go_num,HP,HQ,HL2⟩,rfl⟩
      case measure=>simp [intOf];omega
  · have i0:decide ((i:Int)<(na:Int))=false:=dF (by omega);have e0n:decide (i<na)=false:=dF (by omega);have b1:wr.cell? ⟨w.heap.size,1,none⟩=some (.slice Aa na ka):=(KI.out.below HB.out (by omega)).cell 1;have HLA:Hid (lA.map SM.s=Ck.upSt b (args.map SM.s)):=hY (by rw [HL.out,List.take_of_length_le (by have:=HNA.out;omega)];exact Vv b args);clear HL HA0;go_wp2_with fail;clear b1;go_loopw [7,8,9,10] (fun t7 _ _ _ wv=>∃ (j:Nat) (vS:Value) (lS:List GM),j≤ng∧t7=.int .i64 (j:Int)∧Hid (FB w (w.heap.size+1+1+1) (w.heap.size+1+1) e vA vS lA lS wv)∧Hid (Below (w.heap.size+1+1) w1 wv)∧lS.length≤j∧Hid (lS.map GM.sg=Ck.upG b ((stages.take j).map GM.sg))) (fun t7 _ _ _ _=>ng - (intOf t7).toNat)
    case atStart=>exact ⟨0,_,[],by omega,rfl,HF,HB,Jd _,hY (by simp [Ck.upG])⟩
    case round =>
     clear HF HB e0n i0;rename World=>wv;obtain ⟨j,vS,lS,hj,rfl,HF,HB,hls,HLS⟩:=hrel;have j1:(0:Int)≤(j:Int):=by omega
     rcases Jh j ng with hjn | hjn
     · have i0:decide ((j:Int)<(ng:Int))=true:=dT (by omega);have i1:(j:Int)<(ng:Int):=by omega
       have hjl:j<stages.length:=by have:=HNG.out;omega
       have hX:=HG0.out.new HF.out.h0;rw [←HNG.out] at hX;obtain ⟨g,o,c,G0,A,k,hv,hGe,hvs,-,c0,c1,c2,c3⟩:=z7 hX hjl;injection hv with hA _ hcc;subst hA hcc;have hup:(stages.take (j+1)).map GM.sg=(stages.take j).map GM.sg++[GM.sg G0]:=by rw [List.take_succ_eq_append_getElem hjl,List.map_append,hGe];rfl
       have hst:=HG0.out.2 _ (Jl hjl);have hml:=HML.out _ (Jl hjl);rw [hGe] at hst hml;obtain ⟨line,base,name,vs,ms⟩:=G0;dsimp only at hvs c0 c1 c2 c3 hst hml;subst hvs;have HUP:=hY hup;have HST:=hY hst;clear hX hGe hup hst hjl;have b2:wv.cell? ⟨w.heap.size,2,none⟩=some (.slice (some ⟨g,o,none⟩) ng kg):=(KI.out.below HB.out (by omega)).cell 2;obtain ⟨tt,htt⟩:∃ q,decide (b<line)=q:=⟨_,rfl⟩
       cases tt with
       | true =>
        have htt':b<line:=of_decide_eq_true htt;have HLS2:Hid (lS.map GM.sg=Ck.upG b ((stages.take (j+1)).map GM.sg)):=hY (by rw [HUP.out,Wv,if_neg (by show ¬ line≤b;omega),Kw];exact HLS.out);go_wp2_with fail;go_roundw
        case rel=>first | exact ⟨j+1,vS,lS,by omega,by go_num,HF,HB,by omega,HLS2⟩ | exact ⟨_,_,_,_,⟨j+1,vS,lS,by omega,by go_num,HF,HB,by omega,HLS2⟩,rfl,rfl,rfl,rfl⟩
        case measure=>simp [intOf];omega
       | false =>
        have htt':¬ b<line:=of_decide_eq_false htt;go_upto_region 12 with fail;have HK8:=hY (Blk.new wv 53 #[.int .i64 line,.string (bs base),.string (bs name),.slice A ms.length k]);have HF8:=hY (HF.out.alloc (.cells #[.int .i64 line,.string (bs base),.string (bs name),.slice A ms.length k] 53));have HB8:=hY (HB.out.alloc (by have:=HF.out.size;omega) (.cells #[.int .i64 line,.string (bs base),.string (bs name),.slice A ms.length k] 53));have HW8:=hY ((Ja wv.heap.size wv).alloc (Jd _) (.cells #[.int .i64 line,.string (bs base),.string (bs name),.slice A ms.length k] 53));have hsz8:=HF.out.size;have HZ8:Hid ((wv.alloc (.cells #[.int .i64 line,.string (bs base),.string (bs name),.slice A ms.length k] 53)).heap.size=wv.heap.size+1):=hY (Jb _ _);obtain ⟨G8,hG8⟩:∃ y,wv.heap.size=y:=⟨_,rfl⟩
        obtain ⟨w8,hw8⟩:∃ y,wv.alloc (.cells #[.int .i64 line,.string (bs base),.string (bs name),.slice A ms.length k] 53)=y:=⟨_,rfl⟩
        rw [hG8] at HK8 HZ8 hsz8;rw [hw8] at HK8 HF8 HB8 HW8 HZ8;rw [hw8,hG8];have HG8:=hY hG8;clear hG8 hw8 b2 c0 c1 c2 c3;go_wp2_with fail;go_loopw [9,10] (fun t9 t10 wu=>∃ (q:Nat) (l9:List SM),q≤ms.length∧t10=.int .i64 (q:Int)∧Hid (wu.ownsRow w8.heap.size 41 10 t9 l9.length (yv l9))∧Hid (l9=(ms.take q).filter (UY b))∧Hid (Below w8.heap.size w8 wu)) (fun _ t10 _=>ms.length - (intOf t10).toNat)
        case atStart=>exact ⟨0,[],by omega,rfl,hY (Zl _ _ _ _),hY (by simp),hY (Ja _ _)⟩
        case round =>
         rename World=>wu;obtain ⟨q,l9,hq,rfl,HO,HL9,HBu⟩:=hrel;have j2:(0:Int)≤(q:Int):=by omega
         have HFu:=hY (HF8.out.new HBu.out);have HKu:=hY (HK8.out.below HBu.out HK8.out.lt);have hl9:l9.length≤q:=by rw [HL9.out];exact Jg (Va _ _) (by rw [Kt];omega)
         have hszu:=HBu.out.size;obtain ⟨A9,q9,rfl⟩:=zc HO.out;rcases Jh q ms.length with hqn | hqn
         · have i2:decide ((q:Int)<(ms.length:Int))=true:=dT (by omega);have i3:(q:Int)<(ms.length:Int):=by omega
           have hX:=HST.out.new HFu.out.h0;have hmok:=HST.out.2 _ (Jl hqn);obtain ⟨g2,o2,c2,s,Ap,Aw,Ad,Ae,kp,kw,kd,ke,hv,hse,c0,c1,d2,c3,c4,c5,c6,c7,c8,c9⟩:=yh hX hqn;injection hv with hA _ hcc;subst hA hcc;have hft:=XL (UY b) ms q hqn;rw [hse] at hmok hft;have HMO:=hY hmok;have HFT:=hY hft;clear hX hse hmok hft;have b3:wu.cell? ⟨G8,3,none⟩=some (.slice (some ⟨g2,o2,none⟩) ms.length k):=HKu.out.cell 3;obtain ⟨t3,ht3⟩:∃ x,decide (s.line≤b)=x:=⟨_,rfl⟩
           have HON:Hid (UY b (⟨s,.slice Ap s.pairs.length kp,.slice Aw s.words.length kw,.slice Ad s.docs.length kd,.slice Ae s.exec.length ke⟩:SM)=t3):=hY ht3;cases t3 with
           | false =>
            have HL2:Hid (l9=(ms.take (q+1)).filter (UY b)):=hY (by rw [HFT.out,HON.out,if_neg (by simp),Kw];exact HL9.out);have ht3':¬ s.line≤b:=of_decide_eq_false ht3;go_wp2_with fail;go_roundw
            case rel=>first | exact ⟨q+1,l9,by omega,by go_num,HO,HL2,HBu⟩ | exact ⟨_,_,⟨q+1,l9,by omega,by go_num,HO,HL2,HBu⟩,rfl,rfl⟩
            case measure=>simp [intOf];omega
           | true =>
            have ht3':s.line≤b:=of_decide_eq_true ht3;go_wp2_with (at_builtin;refine zp rfl _ _ _ rfl stpKe w8.heap.size _ l9.length (yv l9) rfl (HO.out.alloc _) _ 1 (ZN (⟨s,.slice Ap s.pairs.length kp,.slice Aw s.words.length kw,.slice Ad s.docs.length kd,.slice Ae s.exec.length ke⟩:SM)) rfl (SlA.blk (cs:=ZN (⟨s,.slice Ap s.pairs.length kp,.slice Aw s.words.length kw,.slice Ad s.docs.length kd,.slice Ae s.exec.length ke⟩:SM)) (Blk.new _ _ _)) rfl (Zk HMO.out) (by omega) (by omega) (HBu.out.alloc HBu.out.size _) (by rw [Jb];omega) ?_;intro v1 w9 ho1 hb1 hg1 hat1;have HO1:=hY ho1;have HB1':=hY hb1;clear ho1 hb1 hg1 hat1);have HL2:Hid (l9++[(⟨s,.slice Ap s.pairs.length kp,.slice Aw s.words.length kw,.slice Ad s.docs.length kd,.slice Ae s.exec.length ke⟩:SM)]=(ms.take (q+1)).filter (UY b)):=hY (by rw [HFT.out,HON.out,if_pos rfl,←HL9.out]);have HO2:Hid (w9.ownsRow w8.heap.size 41 10 v1 (l9++[(⟨s,.slice Ap s.pairs.length kp,.slice Aw s.words.length kw,.slice Ad s.docs.length kd,.slice Ae s.exec.length ke⟩:SM)]).length (yv (l9++[(⟨s,.slice Ap s.pairs.length kp,.slice Aw s.words.length kw,.slice Ad s.docs.length kd,.slice Ae s.exec.length ke⟩:SM)]))):=hY (by rw [Jf,show yv (l9++[(⟨s,.slice Ap s.pairs.length kp,.slice Aw s.words.length kw,.slice Ad s.docs.length kd,.slice Ae s.exec.length ke⟩:SM)])=yv l9++ZN (⟨s,.slice Ap s.pairs.length kp,.slice Aw s.words.length kw,.slice Ad s.docs.length kd,.slice Ae s.exec.length ke⟩:SM) by simp [yv]];exact HO1.out);go_roundw
            case rel=>first | exact ⟨q+1,_,by omega,by go_num,HO2,HL2,HB1'⟩ | exact ⟨_,_,⟨q+1,_,by omega,by go_num,HO2,HL2,HB1'⟩,rfl,rfl⟩
            case measure=>simp [intOf];omega
         · have i2:decide ((q:Int)<(ms.length:Int))=false:=dF (by omega);have e2n:decide (q<ms.length)=false:=dF (by omega);have b3:wu.cell? ⟨G8,3,none⟩=some (.slice A ms.length k):=HKu.out.cell 3;have f3:=HKu.out.frozen 3;have HL2:Hid (l9.map SM.s=Ck.upSt b (ms.map SM.s)):=hY (by rw [HL9.out,List.take_of_length_le (by omega)];exact Vv b ms);have HOM:Hid (∀ m∈l9,m.Ok w):=hY fun m hm=>by rw [HL9.out] at hm;exact HST.out.2 m (List.mem_of_mem_take (List.mem_filter.1 hm).1)
           clear HL9;go_upto_region 19 with fail;have HK10:Hid (Blk (wu.setCell ⟨G8,3,none⟩ (.slice A9 l9.length q9)) G8 53 (([.int .i64 line,.string (bs base),.string (bs name),.slice A9 l9.length q9]:List Value).toArray)):=hY (by have r:=HKu.out.set_ 3 (.slice A9 l9.length q9);simpa using r);have HN10:Hid (Below wv.heap.size wv (wu.setCell ⟨G8,3,none⟩ (.slice A9 l9.length q9))):=hY ((HW8.out.trans (HBu.out.mono (by have:=HZ8.out;have:=HG8.out;omega))).setCell (p:=⟨G8,3,none⟩) (by show wv.heap.size≤G8;rw [HG8.out];exact Jd _) _);have HO10:=hY (WT (ZP HO.out (i:=3) (by have:=HZ8.out;omega:G8<w8.heap.size) (.slice A9 l9.length q9)) (by have:=HZ8.out;omega:w.heap.size+1+1+1≤w8.heap.size));have hszx:w.heap.size+1+1+1≤(wu.setCell ⟨G8,3,none⟩ (.slice A9 l9.length q9)).heap.size:=by rw [zS];have:=HZ8.out;omega
           obtain ⟨w10,hw10⟩:∃ y,wu.setCell ⟨G8,3,none⟩ (.slice A9 l9.length q9)=y:=⟨_,rfl⟩
           rw [hw10] at HK10 HN10 HO10 hszx;rw [hw10];have HF10:=hY (HF.out.new HN10.out);have HB10:=hY (HB.out.trans (HN10.out.mono (by have:=HF.out.size;omega)));clear hw10 b3 f3 HO HKu HFu HBu;obtain ⟨AS,qS,rfl⟩:=zc HF10.out.rS;have b2:w10.cell? ⟨w.heap.size+1+1,2,none⟩=some (.slice AS lS.length qS):=HF10.out.blk.cell 2;have c0:w10.cell? ⟨G8,0,none⟩=some (.int .i64 line):=HK10.out.cell 0;have c1:w10.cell? ⟨G8,1,none⟩=some (.string (bs base)):=HK10.out.cell 1;have c2:w10.cell? ⟨G8,2,none⟩=some (.string (bs name)):=HK10.out.cell 2;have c3:w10.cell? ⟨G8,3,none⟩=some (.slice A9 l9.length q9):=HK10.out.cell 3;have hgl:∀ u∈([.int .i64 line,.string (bs base),.string (bs name),.slice A9 l9.length q9]:List Value),u.oneCell'=true:=fun u hu=>by simp only [Kn,Kl,or_false] at hu;rcases hu with rfl | rfl | rfl | rfl <;> rfl
           have HGL:=hY hgl;clear hgl;go_wp2_with (at_builtin;refine zp rfl _ _ _ rfl QA (w.heap.size+1+1+1) _ lS.length (yH lS) rfl (HF10.out.rS.alloc _) _ 1 [.int .i64 line,.string (bs base),.string (bs name),.slice A9 l9.length q9] rfl (SlA.blk (cs:=[.int .i64 line,.string (bs base),.string (bs name),.slice A9 l9.length q9]) (Blk.new _ _ _)) rfl HGL.out (by omega) (by omega) (Ja _ _) (by rw [Jb];omega) ?_;intro v1 w9 ho1 hb1 hg1 hat1;have hk9:=(HF10.out.alloc (.cells ([.int .i64 line,.string (bs base),.string (bs name),.slice A9 l9.length q9]:List Value).toArray 53)).blk.below hb1 HF10.out.hG;have k9:w9.cell? ⟨w.heap.size+1+1,2,none⟩=some (.slice AS lS.length qS):=hk9.cell 2;have f9:=hk9.frozen 2;have HP:=hY ((HF10.out.alloc (.cells ([.int .i64 line,.string (bs base),.string (bs name),.slice A9 l9.length q9]:List Value).toArray 53)).pushS (g:=(⟨line,base,name,.slice A9 l9.length q9,l9⟩:GM)) (HO10.out.alloc _) HOM.out ho1 hb1 hg1);have HQ:=hY (yo ((HB10.out.alloc (by omega) (.cells ([.int .i64 line,.string (bs base),.string (bs name),.slice A9 l9.length q9]:List Value).toArray 53)).trans (hb1.mono (by omega))) ⟨w.heap.size+1+1,2,none⟩ v1 (Jd _) (Jd _));obtain ⟨B1,qB,rfl⟩:=zc ho1;clear hk9 ho1 hb1 hg1 hat1);have HLS2:Hid ((lS++[(⟨line,base,name,.slice A9 l9.length q9,l9⟩:GM)]).map GM.sg=Ck.upG b ((stages.take (j+1)).map GM.sg)):=hY (by
            rw [HUP.out,Wv,if_pos (by show line≤b;omega),List.map_append,HLS.out];congr 1;show [GM.sg (⟨line,base,name,.slice A9 l9.length q9,l9⟩:GM)]=[(⟨line,base,name,Ck.upSt b (ms.map SM.s)⟩:Ck.Sg)]
            rw [←HL2.out];rfl)
           go_roundw
           case rel=>first | exact ⟨j+1,_,_,by omega,by go_num,HP,HQ,by simp;omega,HLS2⟩ | exact ⟨_,_,_,_,⟨j+1,_,_,by omega,by go_num,HP,HQ,by simp;omega,HLS2⟩,rfl,rfl,rfl,rfl⟩
           case measure=>simp [intOf];omega
     · have i0:decide ((j:Int)<(ng:Int))=false:=dF (by omega);have e0n:decide (j<ng)=false:=dF (by omega);have b2:wv.cell? ⟨w.heap.size,2,none⟩=some (.slice Ag ng kg):=(KI.out.below HB.out (by omega)).cell 2;have HLT:Hid (lS.map GM.sg=Ck.upG b (stages.map GM.sg)):=hY (by
        have r:=HLS.out
        rwa [List.take_of_length_le (by have:=HNG.out;omega)] at r)
       clear HLS HG0;have b20:wv.cell? ⟨w.heap.size+1+1,2,none⟩=some vS:=HF.out.blk.cell 2;have f20:=HF.out.blk.frozen 2;have hszv:=HF.out.size;obtain ⟨AA,qA,rfl⟩:=zc HF.out.rA;obtain ⟨AS,qS,rfl⟩:=zc HF.out.rS;rcases lS with _ | ⟨x,lS⟩
       · have k0:(((([]:List GM).length:Nat):Int)==0)=true:=rfl;have HP:=hY ((HF.out.pushS (g:=(⟨b+1,Ck.scratch,[],.slice none 0 0,[]⟩:GM)) (w':=wv.alloc (.cells #[.int .i64 (b+1),.string ⟨#[115,99,114,97,116,99,104]⟩,.string ⟨#[]⟩,.slice none 0 0] 53)) (vS':=.slice (some ⟨wv.heap.size,0,none⟩) 1 1) (Zl _ _ _ _) (fun m hm=>by cases hm) ⟨rfl,.inr ⟨wv.heap.size,1,#[.int .i64 (b+1),.string ⟨#[115,99,114,97,116,99,104]⟩,.string ⟨#[]⟩,.slice none 0 0],rfl,HF.out.size,Blk.new _ _ _,Jd _,by unfold maxLen;omega,rfl,rfl⟩⟩ ((Ja _ _).alloc HF.out.size _) (by
          rcases HF.out.rS.2 with ⟨r,_⟩ | ⟨g',cap',cur',r,_⟩
          · rw [r];exact World.grownBy_alloc wv _ _
          · exact World.grownBy_alloc wv _ _)))
         have HQ:=hY (yo (HB.out.alloc (by omega) (.cells #[.int .i64 (b+1),.string ⟨#[115,99,114,97,116,99,104]⟩,.string ⟨#[]⟩,.slice none 0 0] 53)) ⟨w.heap.size+1+1,2,none⟩ (.slice (some ⟨wv.heap.size,0,none⟩) 1 1) (Jd _) (Jd _));have b21:(wv.alloc (.cells #[.int .i64 (b+1),.string ⟨#[115,99,114,97,116,99,104]⟩,.string ⟨#[]⟩,.slice none 0 0] 53)).cell? ⟨w.heap.size+1+1,2,none⟩=some (.slice AS ([]:List GM).length qS):=(HF.out.alloc _).blk.cell 2;have f21:(wv.alloc (.cells #[.int .i64 (b+1),.string ⟨#[115,99,114,97,116,99,104]⟩,.string ⟨#[]⟩,.slice none 0 0] 53)).frozen? ⟨w.heap.size+1+1,2,none⟩=false:=(HF.out.alloc (.cells #[.int .i64 (b+1),.string ⟨#[115,99,114,97,116,99,104]⟩,.string ⟨#[]⟩,.slice none 0 0] 53)).blk.frozen 2;go_upto_region 22 with fail;obtain ⟨w10,hw10⟩:∃ y,(wv.alloc (.cells #[.int .i64 (b+1),.string ⟨#[115,99,114,97,116,99,104]⟩,.string ⟨#[]⟩,.slice none 0 0] 53)).setCell ⟨w.heap.size+1+1,2,none⟩ (.slice (some ⟨wv.heap.size,0,none⟩) 1 1)=y:=⟨_,rfl⟩
         rw [hw10] at HP HQ;rw [hw10];have HF10:=HP;have HB10:=HQ;clear hw10 HP HQ b20 f20 b21 f21 b2 HF HB;have b0:w10.cell? ⟨w.heap.size+1+1,0,none⟩=some (.int .u8 (e.toNat:Int)):=HF10.out.blk.cell 0;have b1:w10.cell? ⟨w.heap.size+1+1,1,none⟩=some (.slice AA lA.length qA):=HF10.out.blk.cell 1;have b2:w10.cell? ⟨w.heap.size+1+1,2,none⟩=some (.slice (some ⟨wv.heap.size,0,none⟩) 1 1):=HF10.out.blk.cell 2;have KZ10:=hY (KZ.out.below HB10.out (by omega));go_wp2_with (refine ze rfl _ _ _ rfl ZW (w.heap.size+1) #[.int .u8 (e.toNat:Int),.slice AA lA.length qA,.slice (some ⟨wv.heap.size,0,none⟩) 1 1] _ rfl rfl KZ10.out rfl rfl rfl ?_;intro w7 hK7 hg7 hz7);have hF7:=HF10.out.oth hg7 (by omega) (by omega) (by omega);refine bodyPost_ret (zo rfl ZW rfl hK7 rfl) rfl ⟨⟨e,.slice AA lA.length qA,lA,.slice (some ⟨wv.heap.size,0,none⟩) 1 1,[(⟨b+1,Ck.scratch,[],.slice none 0 0,[]⟩:GM)]⟩,rfl,hF7.file,?_,hF7.h0⟩;rw [HFL.out];show (⟨e,lA.map SM.s,([(⟨b+1,Ck.scratch,[],.slice none 0 0,[]⟩:GM)]).map GM.sg⟩:Ck.Fl)=_;rw [HLA.out,if_pos (show Ck.upG b (stages.map GM.sg)=[] from HLT.out.symm)];rfl
       · have k0:((((x::lS).length:Nat):Int)==0)=false:=by rw [Jr,Ji];omega
         obtain ⟨nS,hnS⟩:∃ n,(x::lS).length=n:=⟨_,rfl⟩
         have HF10:=HF;rw [hnS] at b20 k0 HF10;have k1:(nS==0)=false:=by rw [Jr];intro r;rw [r] at hnS;cases hnS
         have HNS:=hY hnS;rename World=>w10;have HB10:=HB;clear hnS f20;go_upto_region 22 with fail;clear b20 b2 HF HB;have hne:Ck.upG b (stages.map GM.sg)≠[]:=fun r=>by have r2:=HLT.out;rw [r] at r2;cases r2
         have HNE:=hY hne;clear hne;have b0:w10.cell? ⟨w.heap.size+1+1,0,none⟩=some (.int .u8 (e.toNat:Int)):=HF10.out.blk.cell 0;have b1:w10.cell? ⟨w.heap.size+1+1,1,none⟩=some (.slice AA lA.length qA):=HF10.out.blk.cell 1;have b2:w10.cell? ⟨w.heap.size+1+1,2,none⟩=some (.slice AS nS qS):=HF10.out.blk.cell 2;have KZ10:=hY (KZ.out.below HB10.out (by omega));go_wp2_with (refine ze rfl _ _ _ rfl ZW (w.heap.size+1) #[.int .u8 (e.toNat:Int),.slice AA lA.length qA,.slice AS nS qS] _ rfl rfl KZ10.out rfl rfl rfl ?_;intro w7 hK7 hg7 hz7);have hF7:=HF10.out.oth hg7 (by omega) (by omega) (by omega);refine bodyPost_ret (zo rfl ZW rfl hK7 rfl) rfl ⟨⟨e,.slice AA lA.length qA,lA,.slice AS nS qS,x::lS⟩,rfl,hF7.file,?_,hF7.h0⟩;rw [HFL.out];show (⟨e,lA.map SM.s,(x::lS).map GM.sg⟩:Ck.Fl)=_;rw [HLA.out,if_neg HNE.out,HLT.out]
end Go.Proofs.YtdaejggcjjdhkaaGreatDoor
