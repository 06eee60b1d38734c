/- stratalaw18.with, walked. (Printed by wip/genwith.py.) -/
import Derived.Test.YtdaejggcjjdhkaaGreatDoorCkV
import Derived.Test.YtdaejggcjjdhkaaGreatDoorExY
set_option maxHeartbeats 2000000
set_option maxRecDepth 100000
namespace Go.Proofs.YtdaejggcjjdhkaaGreatDoor
open Go Go.RowKit
theorem yu:Vq Tryz.prog 41 10:=⟨⟨_,Tryz.underlying41⟩,by kernel_rfl⟩
theorem QA:yP Tryz.prog 23 53 (.agg #[.int .i64 0,.string ⟨#[]⟩,.string ⟨#[]⟩,.slice none 0 0]) 4 64:=⟨Tryz.underlying23,by kernel_rfl,rfl,by decide⟩
theorem stpKe:yP Tryz.prog 22 41 (.agg #[.int .i64 0,.int .i64 0,.string ⟨#[]⟩,.string ⟨#[]⟩,.bool false,.slice none 0 0,.bool false,.slice none 0 0,.slice none 0 0,.slice none 0 0]) 10 160:=⟨Tryz.underlying22,by kernel_rfl,rfl,by decide⟩
theorem ZA {w:World} {v:Value} {n:Nat} {xs:List Value} (h:SlA w v n xs):v.oneCell'=true:=by obtain ⟨A,c,rfl⟩:=h.form;rfl
theorem Zk {w:World} {m:SM} (h:m.Ok w):∀ u∈ZN m,u.oneCell'=true:=fun u hu=>by
 simp only [ZN,Kn,Kl,or_false] at hu;rcases hu with rfl | rfl | rfl | rfl | rfl | rfl | rfl | rfl | rfl | rfl
 all_goals first | rfl | exact ZA h.cp | exact ZA h.cw | exact ZA h.cd | exact ZA h.ce
theorem jy {w:World} {v:Value} {l:List SM} (h:StsA w v l):∀ u∈yv l,u.oneCell'=true:=fun u hu=>by obtain ⟨m,hm,hu⟩:=List.mem_flatMap.1 hu;exact Zk (h.2 m hm) u hu
theorem jQ {w:World} {v:Value} {l:List GM} (h:GsA w v l):∀ u∈yH l,u.oneCell'=true:=fun u hu=>by
 obtain ⟨g,hg,hu⟩:=List.mem_flatMap.1 hu;simp only [VU,Kn,Kl,or_false] at hu;rcases hu with rfl | rfl | rfl | rfl
 all_goals first | rfl | exact ZA (h.2 g hg).1
theorem ZO (l:List SM):(yv l).length=l.length*10:=Xa (f:=ZN) (fun _=>rfl) l
theorem Uy (l:List GM):(yH l).length=l.length*4:=Xa (f:=VU) (fun _=>rfl) l
theorem yK (w:World) (a:Addr) (v:Value):w.grownBy (w.setCell a v) (some a.block):=⟨rfl,rfl,rfl,by simp [World.setCell],fun k _ hk=>by have:a.block≠k:=fun e=>hk (by rw [e]);simp [World.setCell,Array.getElem?_modify,this]⟩
theorem yo {w w':World} {B0 B:Nat} (h:Below B0 w w') (a:Addr) (v:Value) (hB:B≤B0) (ha:B≤a.block):Below B w (w'.setCell a v):=(h.mono hB).setCell (p:=a) ha v
theorem own0 (w:World) (base k:Nat) (e:TypeId) (hb:base≤w.heap.size):(w.alloc (.cells #[] e)).ownsRow base e k (.slice (some ⟨w.heap.size,0,none⟩) 0 0) 0 []:=
 ⟨by simp,.inr ⟨w.heap.size,0,#[],rfl,hb,heap_alloc_new w _,Jd _,by unfold maxLen;omega,by simp,by simp⟩⟩
def cW:Nat→Option Nat
 | 1=>some 6
 | 6=>some 9
 | 8=>some 9
 | _=>none
def VW (N:Nat) (P P3 vl:Value) (T:Array Value) (nl:Nat) (xs ys:List Value):Nat→Value→World→Prop
 | 0,u,_ | 2,u,_ | 3,u,_ | 10,u,_=>u=P
 | 4,u,_ | 11,u,_=>u=P3
 | 5,u,_=>u=vl
 | 7,u,_=>u=.agg T
 | 1,u,w=>∃ b,u=.slice (some ⟨b,0,none⟩) 0 0∧N≤b∧Blk w b 41 #[]
 | 6,u,w=>w.ownsRow N 41 10 u nl xs
 | 8,u,w=>∃ b,u=.slice (some ⟨b,0,none⟩) 1 1∧N≤b∧Blk w b 41 T
 | 9,u,w=>w.ownsRow N 41 10 u (nl+1) (xs++ys)
 | _,_,_=>True
section
variable {N nl:Nat} {P P3 vl:Value} {T:Array Value} {xs ys:List Value} {w w':World}
theorem VW.new (k:Below w.heap.size w w') (j:Nat) (u:Value) (H:VW N P P3 vl T nl xs ys j u w):VW N P P3 vl T nl xs ys j u w':=by
 unfold VW at H ⊢
 split at H <;> first | exact H | (obtain ⟨b,e,hb,hk⟩:=H;exact ⟨b,e,hb,hk.below k hk.lt⟩) | exact zy H k | trivial
theorem UW {b:Nat} (hk:Blk w b 41 #[]) (hb:N≤b):w.ownsRow N 41 10 (.slice (some ⟨b,0,none⟩) 0 0) 0 []:=⟨by simp,.inr ⟨b,0,#[],rfl,hb,hk,Jd _,by unfold maxLen;omega,by simp,by simp⟩⟩
theorem VW.app {b:Nat} (hk:Blk w b 41 #[]) (hT:T.size=10) (hg:w.grownBy w' (some b)) (j:Nat) (u:Value) (hj:([6,9,1]:List Nat).contains j=false) (H:VW N P P3 vl T nl xs ys j u w):VW N P P3 vl T nl xs ys j u w':=by
 unfold VW at H ⊢
 split at H
 all_goals first
  | exact H
  | (exact absurd hj (by decide))
  | trivial
  | (obtain ⟨b',e,hb',hk'⟩:=H
     refine ⟨b',e,hb',(hg.block b' hk'.lt (fun q=>?_)).trans hk'⟩;injection q with q;subst q;have h1:=Jc (hk.symm.trans hk');injection h1 with h1 _ _;rw [←h1] at hT;cases hT)
theorem VW.app2 (j:Nat) (u:Value) (hj:([9,6,1,8]:List Nat).contains j=false) (H:VW N P P3 vl T nl xs ys j u w):VW N P P3 vl T nl xs ys j u w':=by
 unfold VW at H ⊢
 split at H
 all_goals first
  | exact H
  | (exact absurd hj (by decide))
  | trivial
end
theorem YF (e:UInt8) (va vg:Value) (args:List SM) (A:List GM) (L:GM) (m:SM) (w:World) (ha:StsA w va args) (hg:GsA w vg (A++[L])) (hm:m.Ok w) (hn:A.length+1+L.ms.length≤1050000):
  Calls Tryz.prog 22 #[.agg #[.int .u8 (e.toNat:Int),va,vg],.agg #[.int .i64 m.s.op,.int .i64 m.s.line,.string (bs m.s.from_),.string (bs m.s.mode),.bool m.s.force,m.vp,.bool m.s.bare,m.vw,m.vd,m.ve]] w (UJ ⟨e,args.map SM.s,A.map GM.sg++[Ck.more (GM.sg L) m.s]⟩ w):=by
 obtain ⟨s,vp,vw,vd,ve⟩:=m;have HOK:=hY hm;have hcp:SlA w vp s.pairs.length (yV s.pairs):=hm.cp;have hcw:SlA w vw s.words.length (sc s.words):=hm.cw;have hcd:SlA w vd s.docs.length (yI s.docs):=hm.cd;have hce:SlA w ve s.exec.length (sc s.exec):=hm.ce;dsimp only;clear hm;obtain ⟨Ap,kp,rfl⟩:=hcp.form;obtain ⟨Aw,kw,rfl⟩:=hcw.form;obtain ⟨Ad,kd,rfl⟩:=hcd.form;obtain ⟨Ae,ke,rfl⟩:=hce.form;clear hcp hcw hcd hce;obtain ⟨Aa,ka,rfl⟩:=ha.1.form;obtain ⟨Ag,kg,rfl⟩:=hg.1.form;have hlen:(A++[L]).length=A.length+1:=by simp
 rw [hlen] at hg ⊢;have HA:=hY ha;have HG:=hY hg;obtain ⟨na,hna⟩:∃ n,args.length=n:=⟨_,rfl⟩
 obtain ⟨ng,hng⟩:∃ n,A.length=n:=⟨_,rfl⟩
 rw [hna] at HA;rw [hng] at HG hn;have HNA:=hY hna;have HNG:=hY hng;rw [hna,hng];obtain ⟨nl,hnl⟩:∃ n,L.ms.length=n:=⟨_,rfl⟩
 rw [hnl] at hn;have HNL:=hY hnl;clear ha hg hlen hna hng hnl;obtain ⟨nG,hnG⟩:∃ n,ng+1=n:=⟨_,rfl⟩
 rw [hnG] at HG ⊢;have HNX:=hY hnG;have hn1:1≤nG:=by omega
 have hn2:nG≤1050000:=by omega
 clear hnG;go_enter Tryz.func22,Tryz.ntmps22;go_upto_region 2 with fail;obtain ⟨w1,hw1⟩:∃ y,((((w.alloc (.cells #[.int .u8 (e.toNat:Int),.slice Aa na ka,.slice Ag nG kg] 25)).alloc (.cells #[.int .i64 s.op,.int .i64 s.line,.string (bs s.from_),.string (bs s.mode),.bool s.force,.slice Ap s.pairs.length kp,.bool s.bare,.slice Aw s.words.length kw,.slice Ad s.docs.length kd,.slice Ae s.exec.length ke] 41)).alloc (.cells #[.int .u8 0,.slice none 0 0,.slice none 0 0] 25)).alloc (.cells #[.int .u8 (e.toNat:Int),.slice Aa na ka,.slice none 0 0] 25))=y:=⟨_,rfl⟩
 have hz1:w1.heap.size=w.heap.size+1+1+1+1:=by rw [←hw1];simp only [Jb]
 have HB1:Hid (Below w.heap.size w w1):=hY (by rw [←hw1];exact ((((Ja w.heap.size w).alloc (Jd _) _).alloc (by simp only [Jb];omega) _).alloc (by simp only [Jb];omega) _).alloc (by simp only [Jb];omega) _);have KI:Hid (Blk w1 (w.heap.size) 25 #[.int .u8 (e.toNat:Int),.slice Aa na ka,.slice Ag nG kg]):=hY (by
  have q:=Blk.new w 25 #[.int .u8 (e.toNat:Int),.slice Aa na ka,.slice Ag nG kg]
  try simp only [Jb] at q
  rw [←hw1];exact (((q.alloc _).alloc _).alloc _))
 have KS:Hid (Blk w1 (w.heap.size+1) 41 #[.int .i64 s.op,.int .i64 s.line,.string (bs s.from_),.string (bs s.mode),.bool s.force,.slice Ap s.pairs.length kp,.bool s.bare,.slice Aw s.words.length kw,.slice Ad s.docs.length kd,.slice Ae s.exec.length ke]):=hY (by
  have q:=Blk.new (w.alloc (.cells #[.int .u8 (e.toNat:Int),.slice Aa na ka,.slice Ag nG kg] 25)) 41 #[.int .i64 s.op,.int .i64 s.line,.string (bs s.from_),.string (bs s.mode),.bool s.force,.slice Ap s.pairs.length kp,.bool s.bare,.slice Aw s.words.length kw,.slice Ad s.docs.length kd,.slice Ae s.exec.length ke]
  try simp only [Jb] at q
  rw [←hw1];exact ((q.alloc _).alloc _))
 have KZ:Hid (Blk w1 (w.heap.size+1+1) 25 #[.int .u8 0,.slice none 0 0,.slice none 0 0]):=hY (by
  have q:=Blk.new ((w.alloc (.cells #[.int .u8 (e.toNat:Int),.slice Aa na ka,.slice Ag nG kg] 25)).alloc (.cells #[.int .i64 s.op,.int .i64 s.line,.string (bs s.from_),.string (bs s.mode),.bool s.force,.slice Ap s.pairs.length kp,.bool s.bare,.slice Aw s.words.length kw,.slice Ad s.docs.length kd,.slice Ae s.exec.length ke] 41)) 25 #[.int .u8 0,.slice none 0 0,.slice none 0 0]
  try simp only [Jb] at q
  rw [←hw1];exact (q.alloc _))
 have KF:Hid (Blk w1 (w.heap.size+1+1+1) 25 #[.int .u8 (e.toNat:Int),.slice Aa na ka,.slice none 0 0]):=hY (by
  have q:=Blk.new (((w.alloc (.cells #[.int .u8 (e.toNat:Int),.slice Aa na ka,.slice Ag nG kg] 25)).alloc (.cells #[.int .i64 s.op,.int .i64 s.line,.string (bs s.from_),.string (bs s.mode),.bool s.force,.slice Ap s.pairs.length kp,.bool s.bare,.slice Aw s.words.length kw,.slice Ad s.docs.length kd,.slice Ae s.exec.length ke] 41)).alloc (.cells #[.int .u8 0,.slice none 0 0,.slice none 0 0] 25)) 25 #[.int .u8 (e.toNat:Int),.slice Aa na ka,.slice none 0 0]
  try simp only [Jb] at q
  rw [←hw1];exact q)
 rw [hw1];have HZ1:=hY hz1;clear hw1;have b2:w1.cell? ⟨w.heap.size,2,none⟩=some (.slice Ag nG kg):=KI.out.cell 2;have b2':(w1.alloc (.cells #[] 53)).cell? ⟨w.heap.size,2,none⟩=some (.slice Ag nG kg):=(KI.out.alloc _).cell 2;have HO:=hY (own0 w1 (w.heap.size+1+1+1+1) 4 53 (by omega));rw [hz1] at HO;have HBA:=hY ((Ja (w.heap.size+1+1+1+1) w1).alloc (by omega) (.cells #[] 53));have HSA:Hid (w.heap.size+1+1+1+1≤(w1.alloc (.cells #[] 53)).heap.size):=hY (by rw [Jb];omega);have HSG:Hid (SlA (w1.alloc (.cells #[] 53)) (.slice Ag nG kg) nG (yH (A++[L]))):=hY (by
  have q:=(HG.out.new HB1.out).1.new ((Ja w1.heap.size w1).alloc (Jd _) (.cells #[] 53))
  rwa [show (A++[L]).length=nG by rw [Jf,HNG.out];exact HNX.out] at q)
 have HGL:Hid ((yH (A++[L])).length=nG*4):=hY (by rw [Uy,Jf,HNG.out];exact congrArg (·*4) HNX.out);have HG1:=hY (jQ HG.out);obtain ⟨Al,kl,hLv⟩:=(HG.out.2 L (by simp)).1.form;have HLV:=hY hLv;clear hLv;go_upto_region 3 with (at_builtin;refine zp rfl _ _ _ rfl QA (w.heap.size+1+1+1+1) _ 0 [] rfl HO.out _ nG (yH (A++[L])) rfl HSG.out HGL.out HG1.out (by omega) (by omega) HBA.out HSA.out ?_;intro v1 w2 ho1 hb1 hg1 hat1;simp only [Jq,Kx] at ho1;obtain ⟨B1,q1,rfl⟩:=zc ho1;have hF2:=KF.out.below hb1 (by omega);have k2:w2.cell? ⟨w.heap.size+1+1+1,2,none⟩=some (.slice none 0 0):=hF2.cell 2;have f2:=hF2.frozen 2;have HF2:=hY hF2;have HO1:=hY ho1;have HBX:=hY hb1;clear hF2 ho1 hb1 hg1 hat1)
 clear k2 f2 b2 b2' HO HBA HSA HSG HGL;obtain ⟨g1,hB,hg1⟩:∃ g1,B1=some ⟨g1,0,none⟩∧w.heap.size+1+1+1+1≤g1:=by
  rcases HO1.out.2 with ⟨_,h0⟩ | ⟨g1,cap,cur,hv,hbg,_⟩
  · omega
  · injection hv with h1 _ _;exact ⟨g1,h1,hbg⟩
 subst hB;have HR3:=hY (HO1.out.kept (w':=w2.setCell ⟨w.heap.size+1+1+1,2,none⟩ (.slice (some ⟨g1,0,none⟩) nG q1)) (yK w2 ⟨w.heap.size+1+1+1,2,none⟩ _) (.inr (fun q=>by injection q with q;have q':g1=w.heap.size+1+1+1:=q;omega)));have HF3:Hid (Blk (w2.setCell ⟨w.heap.size+1+1+1,2,none⟩ (.slice (some ⟨g1,0,none⟩) nG q1)) (w.heap.size+1+1+1) 25 #[.int .u8 (e.toNat:Int),.slice Aa na ka,.slice (some ⟨g1,0,none⟩) nG q1]):=hY (by have q:=HF2.out.set_ 2 (.slice (some ⟨g1,0,none⟩) nG q1);simpa using q);have HB3:=hY (yo HBX.out ⟨w.heap.size+1+1+1,2,none⟩ (.slice (some ⟨g1,0,none⟩) nG q1) (B:=w.heap.size+1+1+1) (by omega) (Jd _));obtain ⟨w3,hw3⟩:∃ y,w2.setCell ⟨w.heap.size+1+1+1,2,none⟩ (.slice (some ⟨g1,0,none⟩) nG q1)=y:=⟨_,rfl⟩
 rw [hw3] at HR3 HF3 HB3;rw [hw3];clear hw3 HO1 HBX HF2;have b2:w3.cell? ⟨w.heap.size+1+1+1,2,none⟩=some (.slice (some ⟨g1,0,none⟩) nG q1):=HF3.out.cell 2;have i0:(0:Int)≤(nG:Int) - 1:=by omega
 have i1:(1:Int)≤(nG:Int):=by omega
 have i2:(nG:Int) - 1<(nG:Int):=by omega
 go_upto_region 4 with fail;clear i0 i1 i2 b2;have c3:w3.cell? ⟨g1,(nG - 1)*4+3,none⟩=some (.slice Al nl kl):=by rw [HR3.out.cellAt ((nG - 1)*4+3) (by omega),show nG - 1=A.length by have:=HNG.out;have:=HNX.out;omega];have q:=yX (f:=VU) (k:=4) (fun _=>rfl) (A++[L]) A.length 3 (by simp) (by omega);rw [show (yH (A++[L]))=(A++[L]).flatMap VU from rfl,q];simp only [List.getElem_append_right (Jd _),Nat.sub_self,List.getElem_cons_zero];show some L.vs=_;rw [HLV.out,HNL.out]
 have KS3:=hY (KS.out.below (HB3.out) (by omega));have C3:=hY c3;have HSL:Hid (StsA w (.slice Al nl kl) L.ms):=hY (by have q:=HG.out.2 L (by simp);rwa [HLV.out,HNL.out] at q);have hw3:w.heap.size+1+1+1+1≤w3.heap.size:=Jg (by omega) HB3.out.size;have HBW:=hY (HB1.out.trans (HB3.out.mono (by omega)));obtain ⟨N,hN⟩:∃ N,w3.heap.size=N:=⟨_,rfl⟩
 have HN:=hY hN;clear c3;refine' Yn 12 cW (fun wx=>Below w3.heap.size w3 wx) (VW N (.pointer (some ⟨g1,(nG - 1)*4,none⟩)) (.pointer (some ⟨g1,(nG - 1)*4+3,none⟩)) (.slice Al nl kl) #[.int .i64 s.op,.int .i64 s.line,.string (bs s.from_),.string (bs s.mode),.bool s.force,.slice Ap s.pairs.length kp,.bool s.bare,.slice Aw s.words.length kw,.slice Ad s.docs.length kd,.slice Ae s.exec.length ke] nl (yv L.ms) (ZN (⟨s,.slice Ap s.pairs.length kp,.slice Aw s.words.length kw,.slice Ad s.docs.length kd,.slice Ae s.exec.length ke⟩:SM))) ?F ?hF (by kernel_rfl) (by kernel_rfl) (by kernel_rfl) (by decide) (by kernel_rfl) (by kernel_rfl) (by kernel_rfl) (Ja _ _).drew ?hsteps ?hT
 case hF =>intro xs;refine (zz _ _ _).trans ?_;simp only [zR,Act.put,List.setIfInBounds_toArray,List.set_cons_zero,List.set_cons_succ,Nat.reduceAdd,Jq];exact rfl
 case hsteps =>
  simp only [List.take_succ_cons,List.take_zero];refine StepsC.cons (n:=[]) (dd:=[]) (k:=1) rfl (by kernel_rfl) (by kernel_rfl) (fun xs wx hS hV K hK=>?_) ?_
  · clear hV;go_simp;exact hK.out _ _ hS rfl (fun j u _ H=>H)
  refine StepsC.cons (n:=[]) (dd:=[]) (k:=2) rfl (by kernel_rfl) (by kernel_rfl) (fun xs wx hS hV K hK=>?_) ?_
  · clear hV;go_simp;exact hK.out _ _ (hS.alloc hS.size _) ⟨_,rfl,by rw [←HN.out];exact hS.size,Blk.new _ _ _⟩ (fun j u _ H=>VW.new ((Ja _ _).alloc (Jd _) _) j u H)
  refine StepsC.cons (n:=[]) (dd:=[]) (k:=3) rfl (by kernel_rfl) (by kernel_rfl) (fun xs wx hS hV K hK=>?_) ?_
  · clear hV;go_simp;exact hK.out _ _ hS rfl (fun j u _ H=>H)
  refine StepsC.cons (n:=[2]) (dd:=[]) (k:=4) rfl (by kernel_rfl) (by kernel_rfl) (fun xs wx hS hV K hK=>?_) ?_
  · obtain ⟨d2,-⟩:=hV;replace d2:xs 2=.pointer (some ⟨g1,(nG - 1)*4,none⟩):=d2;rw [d2] at hK ⊢;go_simp;exact hK.out _ _ hS rfl (fun j u _ H=>H)
  refine StepsC.cons (n:=[3]) (dd:=[]) (k:=5) rfl (by kernel_rfl) (by kernel_rfl) (fun xs wx hS hV K hK=>?_) ?_
  · obtain ⟨d3,-⟩:=hV;replace d3:xs 3=.pointer (some ⟨g1,(nG - 1)*4,none⟩):=d3;rw [d3] at hK ⊢;go_simp;exact hK.out _ _ hS rfl (fun j u _ H=>H)
  refine StepsC.cons (n:=[4]) (dd:=[]) (k:=6) rfl (by kernel_rfl) (by kernel_rfl) (fun xs wx hS hV K hK=>?_) ?_
  · obtain ⟨d4,-⟩:=hV;replace d4:xs 4=.pointer (some ⟨g1,(nG - 1)*4+3,none⟩):=d4;rw [d4] at hK ⊢;have c:wx.cell? ⟨g1,(nG - 1)*4+3,none⟩=some (.slice Al nl kl):=(hS.cell (p:=⟨g1,(nG - 1)*4+3,none⟩) (Je w3 _ C3.out)).trans C3.out;go_simp;exact hK.out _ _ hS rfl (fun j u _ H=>H)
  refine StepsC.cons (n:=[1,5]) (dd:=[6,9,1]) (k:=7) rfl (by kernel_rfl) (by kernel_rfl) (fun xs wx hS hV K hK=>?_) ?_
  · obtain ⟨⟨bk,d1,hbk,hkb⟩,d5,-⟩:=hV;replace d5:xs 5=.slice Al nl kl:=d5;rw [d1,d5] at hK ⊢;have hbw:=HBW.out.trans (hS.mono (by omega));have hsl:=(HSL.out.new hbw).1;have hown:wx.ownsRow N 41 10 (.slice (some ⟨bk,0,none⟩) 0 0) 0 []:=UW hkb hbk;refine ZM rfl _ _ _ rfl stpKe N _ 0 [] rfl hown _ nl (yv L.ms) rfl (by rw [HNL.out] at hsl;exact hsl) (by rw [ZO,HNL.out]) (jy HSL.out) (by omega) (by omega) (by rw [←HN.out];exact hS) (by rw [←HN.out];exact hS.size) ?_;intro v6 w6 ho6 hb6 hg6 hat6;simp only [Jq,Kx] at ho6;refine hK.out _ _ (by rw [←HN.out] at hb6;exact hb6) ho6 (fun j u hj H=>?_);exact VW.app hkb rfl hg6 j u hj H
  refine StepsC.cons (n:=[]) (dd:=[]) (k:=8) rfl (by kernel_rfl) (by kernel_rfl) (fun xs wx hS hV K hK=>?_) ?_
  · clear hV;have c0:wx.cell? ⟨w.heap.size+1,0,none⟩=some (.int .i64 s.op):=(KS3.out.below hS KS3.out.lt).cell 0;have c1:wx.cell? ⟨w.heap.size+1,1,none⟩=some (.int .i64 s.line):=(KS3.out.below hS KS3.out.lt).cell 1;have c2:wx.cell? ⟨w.heap.size+1,2,none⟩=some (.string (bs s.from_)):=(KS3.out.below hS KS3.out.lt).cell 2;have c3:wx.cell? ⟨w.heap.size+1,3,none⟩=some (.string (bs s.mode)):=(KS3.out.below hS KS3.out.lt).cell 3;have c4:wx.cell? ⟨w.heap.size+1,4,none⟩=some (.bool s.force):=(KS3.out.below hS KS3.out.lt).cell 4;have c5:wx.cell? ⟨w.heap.size+1,5,none⟩=some (.slice Ap s.pairs.length kp):=(KS3.out.below hS KS3.out.lt).cell 5;have c6:wx.cell? ⟨w.heap.size+1,6,none⟩=some (.bool s.bare):=(KS3.out.below hS KS3.out.lt).cell 6;have c7:wx.cell? ⟨w.heap.size+1,7,none⟩=some (.slice Aw s.words.length kw):=(KS3.out.below hS KS3.out.lt).cell 7;have c8:wx.cell? ⟨w.heap.size+1,8,none⟩=some (.slice Ad s.docs.length kd):=(KS3.out.below hS KS3.out.lt).cell 8;have c9:wx.cell? ⟨w.heap.size+1,9,none⟩=some (.slice Ae s.exec.length ke):=(KS3.out.below hS KS3.out.lt).cell 9;go_simp;exact hK.out _ _ hS rfl (fun j u _ H=>H)
  refine StepsC.cons (n:=[7]) (dd:=[]) (k:=9) rfl (by kernel_rfl) (by kernel_rfl) (fun xs wx hS hV K hK=>?_) ?_
  · obtain ⟨d7,-⟩:=hV;replace d7:xs 7=.agg #[.int .i64 s.op,.int .i64 s.line,.string (bs s.from_),.string (bs s.mode),.bool s.force,.slice Ap s.pairs.length kp,.bool s.bare,.slice Aw s.words.length kw,.slice Ad s.docs.length kd,.slice Ae s.exec.length ke]:=d7;rw [d7] at hK ⊢;go_simp;exact hK.out _ _ (hS.alloc hS.size _) ⟨_,rfl,by rw [←HN.out];exact hS.size,Blk.new _ _ _⟩ (fun j u _ H=>VW.new ((Ja _ _).alloc (Jd _) _) j u H)
  refine StepsC.cons (n:=[6,8]) (dd:=[9,6,1,8]) (k:=10) rfl (by kernel_rfl) (by kernel_rfl) (fun xs wx hS hV K hK=>?_) ?_
  · obtain ⟨hown,⟨bk,d8,hbk,hkb⟩,-⟩:=hV;obtain ⟨u6,hu6⟩:∃ u,xs 6=u:=⟨_,rfl⟩
    rw [hu6] at hown;rw [hu6,d8] at hK ⊢;replace hown:wx.ownsRow N 41 10 u6 nl (yv L.ms):=hown;refine ZM rfl _ _ _ rfl stpKe N _ nl (yv L.ms) rfl hown _ 1 (ZN (⟨s,.slice Ap s.pairs.length kp,.slice Aw s.words.length kw,.slice Ad s.docs.length kd,.slice Ae s.exec.length ke⟩:SM)) rfl (SlA.blk (cs:=ZN (⟨s,.slice Ap s.pairs.length kp,.slice Aw s.words.length kw,.slice Ad s.docs.length kd,.slice Ae s.exec.length ke⟩:SM)) hkb) rfl (Zk HOK.out) (by omega) (by omega) (by rw [←HN.out];exact hS) (by rw [←HN.out];exact hS.size) ?_;intro v9 w9 ho9 hb9 hg9 hat9;refine hK.out _ _ (by rw [←HN.out] at hb9;exact hb9) ho9 (fun j u hj H=>?_);exact VW.app2 j u hj H
  refine StepsC.cons (n:=[0]) (dd:=[]) (k:=11) rfl (by kernel_rfl) (by kernel_rfl) (fun xs wx hS hV K hK=>?_) ?_
  · obtain ⟨d0,-⟩:=hV;replace d0:xs 0=.pointer (some ⟨g1,(nG - 1)*4,none⟩):=d0;rw [d0] at hK ⊢;go_simp;exact hK.out _ _ hS rfl (fun j u _ H=>H)
  refine StepsC.cons (n:=[10]) (dd:=[]) (k:=12) rfl (by kernel_rfl) (by kernel_rfl) (fun xs wx hS hV K hK=>?_) ?_
  · obtain ⟨d10,-⟩:=hV;replace d10:xs 10=.pointer (some ⟨g1,(nG - 1)*4,none⟩):=d10;rw [d10] at hK ⊢;go_simp;exact hK.out _ _ hS rfl (fun j u _ H=>H)
  exact StepsC.nil
 case hT =>
  intro xs w5 hS hV;have d11:xs 11=.pointer (some ⟨g1,(nG - 1)*4+3,none⟩):=hV 11 (by decide) (fun k hk=>by cases hk);have hown:w5.ownsRow N 41 10 (xs 9) (nl+1) (yv L.ms++ZN (⟨s,.slice Ap s.pairs.length kp,.slice Aw s.words.length kw,.slice Ad s.docs.length kd,.slice Ae s.exec.length ke⟩:SM)):=hV 9 (by decide) (fun k hk=>by cases hk);obtain ⟨B9,q9,e9⟩:=zc hown;rw [e9] at hown;simp only [List.drop_succ_cons,Jw];rw [d11,e9];have c3:w5.cell? ⟨g1,(nG - 1)*4+3,none⟩=some (.slice Al nl kl):=(hS.cell (p:=⟨g1,(nG - 1)*4+3,none⟩) (Je w3 _ C3.out)).trans C3.out;have hR5:=zy HR3.out hS;have f3:w5.frozen? ⟨g1,(nG - 1)*4+3,none⟩=false:=hR5.frozenAt _;have HR5:=hY hR5;have HO5:=hY hown;have hb9:∀ k,(Value.slice B9 (nl+1) q9).ownBlock=some k→g1<k:=fun k hk=>by have h1:=(hown.lt k hk).1;have h2:=(HR3.out.lt g1 rfl).2;have h3:=HN.out;omega
  have HB9:=hY hb9;have HBS:=hY hS;clear hV d11 e9 hown hR5 hS hb9;go_upto_region 5 with fail;clear c3 f3;have HF5:=hY (HF3.out.below HBS.out HF3.out.lt);have HZ5:=hY ((KZ.out.below HB3.out (by omega)).below HBS.out (KZ.out.below HB3.out (by omega)).lt);have hg1':w.heap.size+1+1+1+1≤g1:=hg1;have HF6:Hid (Blk (w5.setCell ⟨g1,(nG - 1)*4+3,none⟩ (.slice B9 (nl+1) q9)) (w.heap.size+1+1+1) 25 #[.int .u8 (e.toNat:Int),.slice Aa na ka,.slice (some ⟨g1,0,none⟩) nG q1]):=hY ((RowKit.Below.heap_setCell _ _ _ _ (by show w.heap.size+1+1+1≠g1;omega)).trans HF5.out);have HZ6:Hid (Blk (w5.setCell ⟨g1,(nG - 1)*4+3,none⟩ (.slice B9 (nl+1) q9)) (w.heap.size+1+1) 25 #[.int .u8 0,.slice none 0 0,.slice none 0 0]):=hY ((RowKit.Below.heap_setCell _ _ _ _ (by show w.heap.size+1+1≠g1;omega)).trans HZ5.out);have HR6:=hY (HR5.out.stored ((nG - 1)*4+3) (.slice B9 (nl+1) q9)).1;have HO6:=hY (HO5.out.kept (yK w5 ⟨g1,(nG - 1)*4+3,none⟩ (.slice B9 (nl+1) q9)) (by
   rcases hx:(Value.slice B9 (nl+1) q9).ownBlock with _ | k
   · exact .inl rfl
   · refine .inr (fun q=>?_);injection q with q;have q':k=g1:=q;have:=HB9.out k hx;omega))
  have HB6:Hid (Below w.heap.size w (w5.setCell ⟨g1,(nG - 1)*4+3,none⟩ (.slice B9 (nl+1) q9))):=hY ((HBW.out.trans (HBS.out.mono (by omega))).setCell (p:=⟨g1,(nG - 1)*4+3,none⟩) (by show w.heap.size≤g1;omega) _);obtain ⟨w6,hw6⟩:∃ y,w5.setCell ⟨g1,(nG - 1)*4+3,none⟩ (.slice B9 (nl+1) q9)=y:=⟨_,rfl⟩
  rw [hw6] at HF6 HZ6 HR6 HO6 HB6;rw [hw6];clear hw6 HF5 HZ5 HR5 HO5 HBS;have b0:w6.cell? ⟨w.heap.size+1+1+1,0,none⟩=some (.int .u8 (e.toNat:Int)):=HF6.out.cell 0;have b1:w6.cell? ⟨w.heap.size+1+1+1,1,none⟩=some (.slice Aa na ka):=HF6.out.cell 1;have b2:w6.cell? ⟨w.heap.size+1+1+1,2,none⟩=some (.slice (some ⟨g1,0,none⟩) nG q1):=HF6.out.cell 2;go_wp2_with (refine ze rfl _ _ _ rfl ZW (w.heap.size+1+1) #[.int .u8 (e.toNat:Int),.slice Aa na ka,.slice (some ⟨g1,0,none⟩) nG q1] _ rfl rfl HZ6.out rfl rfl rfl ?_;intro w7 hK7 hg7 hz7);have hG7:w6.grownBy w7 (some (w.heap.size+1+1)):=hg7;have hB7:Below w.heap.size w w7:=HB6.out.trans ((Fx.of_grown hG7).to_below HB6.out.size (fun b q=>by injection q with q;omega));have hR7:=HR6.out.kept hG7 (.inr (fun q=>by injection q with q;have q':g1=w.heap.size+1+1:=q;omega));have hO7:=HO6.out.kept hG7 (by
   rcases hx:(Value.slice B9 (nl+1) q9).ownBlock with _ | k
   · exact .inl rfl
   · refine .inr (fun q=>?_);injection q with q;have q':k=w.heap.size+1+1:=q;have:=HB9.out k hx;omega)
  refine bodyPost_ret (zo rfl ZW rfl hK7 rfl) rfl ?_;have hset:(yH (A++[L])).set ((nG - 1)*4+3) (.slice B9 (nl+1) q9)=yH (A++[⟨L.line,L.base,L.name,(.slice B9 (nl+1) q9),L.ms++[(⟨s,.slice Ap s.pairs.length kp,.slice Aw s.words.length kw,.slice Ad s.docs.length kd,.slice Ae s.exec.length ke⟩:SM)]⟩]):=by
   have e1:∀ x:GM,yH (A++[x])=yH A++VU x:=fun x=>by simp [yH]
   have e2:(yH A).length=(nG - 1)*4:=by rw [Uy,HNG.out];have:=HNX.out;congr 1;omega
   rw [e1,e1,List.set_append_right _ _ (by omega),e2,Nat.add_sub_cancel_left];rfl
  rw [hset] at hR7;exact ⟨⟨e,.slice Aa na ka,args,.slice (some ⟨g1,0,none⟩) nG q1,A++[⟨L.line,L.base,L.name,(.slice B9 (nl+1) q9),L.ms++[(⟨s,.slice Ap s.pairs.length kp,.slice Aw s.words.length kw,.slice Ad s.docs.length kd,.slice Ae s.exec.length ke⟩:SM)]⟩]⟩,rfl,⟨HA.out.new hB7,⟨by
    rw [show (A++[(⟨L.line,L.base,L.name,(.slice B9 (nl+1) q9),L.ms++[(⟨s,.slice Ap s.pairs.length kp,.slice Aw s.words.length kw,.slice Ad s.docs.length kd,.slice Ae s.exec.length ke⟩:SM)]⟩:GM)]).length=nG by rw [Jf,HNG.out];exact HNX.out];exact SlA.own hR7,fun g hg=>by
    rcases Km.1 hg with hg | hg
    · exact (HG.out.2 g (Km.2 (.inl hg))).new hB7
    · rw [Jv] at hg;subst hg;refine ⟨?_,fun m' hm'=>?_⟩
      · show SlA w7 (.slice B9 (nl+1) q9) (L.ms++[(⟨s,.slice Ap s.pairs.length kp,.slice Aw s.words.length kw,.slice Ad s.docs.length kd,.slice Ae s.exec.length ke⟩:SM)]).length (yv (L.ms++[(⟨s,.slice Ap s.pairs.length kp,.slice Aw s.words.length kw,.slice Ad s.docs.length kd,.slice Ae s.exec.length ke⟩:SM)]));rw [show yv (L.ms++[(⟨s,.slice Ap s.pairs.length kp,.slice Aw s.words.length kw,.slice Ad s.docs.length kd,.slice Ae s.exec.length ke⟩:SM)])=yv L.ms++ZN (⟨s,.slice Ap s.pairs.length kp,.slice Aw s.words.length kw,.slice Ad s.docs.length kd,.slice Ae s.exec.length ke⟩:SM) by simp [yv],Jf,HNL.out];exact SlA.own hO7
      · rcases Km.1 hm' with hm' | hm'
        · exact (HSL.out.2 m' hm').new hB7
        · rw [Jv] at hm';subst hm';exact HOK.out.new hB7⟩⟩,by simp [FM.fl,GM.sg,Ck.more],hB7⟩
end Go.Proofs.YtdaejggcjjdhkaaGreatDoor
