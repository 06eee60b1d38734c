/- check.valid, walked. -/
import Derived.Test.YtdaejggcjjdhkaaGreatDoorProg
import Derived.Ground.NamesProg
import Derived.Test.YtdaejggcjjdhkaaGreatDoorMkB
import Derived.Test.YtdaejggcjjdhkaaGreatDoorMkA
import Derived.Shelf.Abstract
import Derived.Shelf.RegionOpen
import Derived.Shelf.Unicode.ValidAny
import Derived.Lib.LaidU8
import Derived.Lib.TrimUEq
import Derived.Deep.RegionHeld3
import Derived.Deep.DeepCutAuto
import Derived.Deep.QuietTactic
import Derived.BigQuiet
set_option maxHeartbeats 4000000
set_option maxRecDepth 100000
namespace Go.Proofs.YtdaejggcjjdhkaaGreatDoor
open Go Go.RowKit Go.Shelf
def Tryz.lays196_ren : Go.Shelf.Ren := ⟨fun | 196 => 44 | 259 => 101 | n => n, fun | 9 => 9 | 4 => 4 | 3 => 3 | 5 => 5 | 12 => 12 | 119 => 126 | 0 => 0 | 46 => 130 | 139 => 129 | 138 => 128 | 53 => 165 | n => n, fun | 3 => 1 | 4 => 2 | n => n⟩
theorem Tryz.lays196 : Go.Proofs.Lays.n196 Tryz.prog Tryz.lays196_ren := {
  mixed := by kernel_rfl
  f196 := Tryz.func44.trans (congrArg some (by kernel_rfl))
  f259 := Tryz.func101.trans (congrArg some (by kernel_rfl))
  t0 := Tryz.underlying0
  a0 := Tryz.isAgg0
  z0 := Tryz.sizeOf0
  v0 := Tryz.zeroValue0
  t3 := Tryz.underlying3
  a3 := Tryz.isAgg3
  z3 := Tryz.sizeOf3
  v3 := Tryz.zeroValue3
  t4 := Tryz.underlying4
  a4 := Tryz.isAgg4
  z4 := Tryz.sizeOf4
  v4 := Tryz.zeroValue4
  t5 := Tryz.underlying5
  a5 := Tryz.isAgg5
  z5 := Tryz.sizeOf5
  v5 := Tryz.zeroValue5
  t9 := Tryz.underlying9
  a9 := Tryz.isAgg9
  z9 := Tryz.sizeOf9
  v9 := Tryz.zeroValue9
  t12 := Tryz.underlying12
  a12 := Tryz.isAgg12
  z12 := Tryz.sizeOf12
  v12 := Tryz.zeroValue12
  t46 := Tryz.underlying130
  a46 := Tryz.isAgg130
  z46 := Tryz.sizeOf130
  v46 := Tryz.zeroValue130
  t53 := Tryz.underlying165
  a53 := Tryz.isAgg165
  z53 := Tryz.sizeOf165
  v53 := Tryz.zeroValue165
  t119 := Tryz.underlying126
  a119 := Tryz.isAgg126
  z119 := Tryz.sizeOf126
  t138 := Tryz.underlying128
  a138 := Tryz.isAgg128
  z138 := Tryz.sizeOf128
  v138 := Tryz.zeroValue128
  t139 := Tryz.underlying129
  a139 := Tryz.isAgg129
  z139 := Tryz.sizeOf129
  v139 := Tryz.zeroValue129
  g3 := by kernel_rfl
  g4 := by kernel_rfl }

theorem Qh (n b0 b1 b2 b3:Nat) (h0:b0<256) (h1:b1<256) (h2:b2<256) (h3:b3<256):
  (Lx.charN n b0 b1 b2 b3=0∧Lib.decodeN n b0 b1 b2 b3=(65533,1))∨(Lx.charN n b0 b1 b2 b3=(Lib.decodeN n b0 b1 b2 b3).2∧1≤(Lib.decodeN n b0 b1 b2 b3).2∧¬ ((Lib.decodeN n b0 b1 b2 b3).1=65533∧(Lib.decodeN n b0 b1 b2 b3).2=1)):=by
 unfold Lx.charN Lib.decodeN
 repeat' split
 all_goals first
  | (left;exact ⟨rfl,rfl⟩)
  | (exfalso;omega)
  | (right;refine ⟨rfl,by simp only;omega,fun h=>?_⟩;have h5:=h.1;have h6:=h.2;simp only at h5 h6;omega)
theorem YH:∀ (n:Nat) (s:List UInt8) (i line f:Nat),s.length≤n→(Lx.wrongL s 0 i line f).isSome=!Lib.validGoD n s
 | n,[],i,line,f,_=>by
  rw [Lx.wrongL];cases n with
  | zero=>rfl
  | succ n=>rw [Lib.validGoD,if_pos rfl];rfl
 | 0,c::r,_,_,_,h=>absurd h (by simp)
 | n+1,c::r,i,line,f,h=>by
  have hd:=Qh (c::r).length ((c::r).getD 0 0).toNat ((c::r).getD 1 0).toNat ((c::r).getD 2 0).toNat ((c::r).getD 3 0).toNat (Jm _) (Jm _) (Jm _) (Jm _);rw [←Lib.decodeL_N,show Lx.charN (c::r).length ((c::r).getD 0 0).toNat ((c::r).getD 1 0).toNat ((c::r).getD 2 0).toNat ((c::r).getD 3 0).toNat=Lx.charLen (c::r) from rfl] at hd;rw [Lib.validGoD,if_neg (List.cons_ne_nil c r),Lx.wrongL];rcases hd with ⟨h1,h2⟩ | ⟨h1,h2,h3⟩
  · rw [h1,h2,if_pos (And.intro rfl rfl)];rfl
  · rw [if_neg h3];obtain ⟨k,hk⟩:∃ k,(Lib.decodeL (c::r)).2=k+1:=⟨_,(Nat.sub_add_cancel h2).symm⟩
    rw [h1,hk];simp only;rw [Lx.wrongL_skip,List.drop_succ_cons];exact YH n _ _ _ _ (by rw [Jn];simp only [Ji] at h;omega)
theorem Qk (s:List UInt8):Lib.validD s=!Ck.badT s:=by unfold Ck.badT Lib.validD;rw [YH s.length s 0 1 0 (Jd _),Bool.not_not]
def Tabs (w:World):Prop:=Lib.Utf8Tabs 1 2 w
theorem Tabs.new {w w':World} (h:Tabs w) (hb:Below w.heap.size w w'):Tabs w':=by
 obtain ⟨h1,h2⟩:=h;refine ⟨fun c hc=>?_,fun i hi=>⟨?_,?_⟩⟩
 · have h:=h1 c hc;exact (hb.cell (p:=⟨_,c,none⟩) (Je w _ h)).trans h
 · have h:=(h2 i hi).1;exact (hb.cell (p:=⟨_,2*i,none⟩) (Je w _ h)).trans h
 · have h:=(h2 i hi).2;exact (hb.cell (p:=⟨_,2*i+1,none⟩) (Je w _ h)).trans h
theorem ZK (s:List UInt8) (w:World) (hs:s.length≤9223372036854775807) (hT:Tabs w) {b:Bool} (H:Hid (Ck.badT s=b)):Calls Tryz.prog 44 #[.string (bs s)] w fun e w'=>e=.returned (.bool (!b))∧Below w.heap.size w w':=by have h:=Any.utf8_ValidString Tryz.lays196 (bs s) w (by rw [zd];exact hs) hT;rw [show (bs s).data.toList=s from rfl,Qk,H.out] at h;exact h
end Go.Proofs.YtdaejggcjjdhkaaGreatDoor
namespace Go.Proofs.YtdaejggcjjdhkaaGreatDoor
open Go Go.RowKit
theorem Yz:yP Tryz.prog 38 9 (.string ⟨#[]⟩) 1 16:=⟨Tryz.underlying38,by kernel_rfl,rfl,by decide⟩
theorem X6 (w:World) (base:Nat) (cs:List Value) (e:TypeId) (n:Nat) (hn:cs.length=n) (h63:n≤9223372036854775807) (hb:base≤w.heap.size):(w.alloc (.cells cs.toArray e)).ownsRow base e 1 (.slice (some ⟨w.heap.size,0,none⟩) n n) n cs:=
 ⟨by omega,.inr ⟨w.heap.size,n,cs.toArray,rfl,hb,heap_alloc_new w _,Jd _,by unfold maxLen;omega,by simp [hn],by simp [←hn]⟩⟩
theorem Z5 {w w1 w2:World} {v:Value} {n:Nat} {xs:List Value} (hz:w1.heap.size=w.heap.size+1) (hb:Below (w.heap.size+1) w1 w2) (h:SlA w1 v n xs):SlA w2 v n xs:=h.new (by rw [hz];exact hb)
theorem YD (l:List (List UInt8)):∀ u∈sc l,u.oneCell'=true:=zad l
def Qn (l:List Ck.Pr):List (List UInt8):=l.flatMap fun p=>[p.key,p.val]
def jt (l:List Lx.Dc):List (List UInt8):=l.flatMap fun d=>[d.name,d.text]
theorem WO (l:List Ck.Pr) (i:Nat) (hi:i<l.length):Qn (l.take (i+1))=Qn (l.take i)++[l[i].key,l[i].val]:=by unfold Qn;rw [List.take_add_one,Jk hi,Kf];rfl
theorem Vi (l:List Lx.Dc) (i:Nat) (hi:i<l.length):jt (l.take (i+1))=jt (l.take i)++[l[i].name,l[i].text]:=by unfold jt;rw [List.take_add_one,Jk hi,Kf];rfl
theorem YC {x y:ByteArray}:∀ u∈([.string x,.string y]:List Value),u.oneCell'=true:=fun u hu=>by
 rcases Kn.1 hu with rfl | hu
 · rfl
 · rw [Jv] at hu;subst hu;rfl
theorem jI {w:World} {cs:List Value} {e:TypeId} {n g:Nat} (hg:g=w.heap.size):SlA (w.alloc (.cells cs.toArray e)) (.slice (some ⟨g,0,none⟩) n n) n cs:=.inr ⟨g,0,n,rfl,fun j u hu=>by
 subst hg;have:=Z0 w cs e j u hu
 rwa [Xh] at this⟩
set_option linter.unusedSimpArgs false in
theorem Qt (m:SM) (w:World) (hok:m.Ok w) (hT:Tabs w) (hn:m.s.words.length+m.s.exec.length+m.s.pairs.length+m.s.docs.length≤1050000) (hL:∀ t∈Ck.textsL m.s,t.length≤9223372036854775807) {b:Bool} (H:Hid ((Ck.textsL m.s).any Ck.badT=b)):
  Calls Tryz.prog 95 #[.agg #[.int .i64 m.s.op,.int .i64 m.s.line,.string (bs m.s.from_),.string (bs m.s.mode),.bool m.s.force,m.vp,.bool m.s.bare,m.vw,m.vd,m.ve]] w fun r w'=>r=.returned (.bool (!b))∧Below w.heap.size w w':=by
 obtain ⟨s,vp,vw,vd,ve⟩:=m;have hcp:SlA w vp s.pairs.length (yV s.pairs):=hok.cp;have hcw:SlA w vw s.words.length (sc s.words):=hok.cw;have hcd:SlA w vd s.docs.length (yI s.docs):=hok.cd;have hce:SlA w ve s.exec.length (sc s.exec):=hok.ce;dsimp only at hn hL H ⊢;clear hok;obtain ⟨Ap,kp,rfl⟩:=hcp.form;obtain ⟨Ad,kd,rfl⟩:=hcd.form;have hal:=(Ja w.heap.size w).alloc (Jd _) (.cells #[.int .i64 s.op,.int .i64 s.line,.string (bs s.from_),.string (bs s.mode),.bool s.force,.slice Ap s.pairs.length kp,.bool s.bare,vw,.slice Ad s.docs.length kd,ve] 41);have hk:=Blk.new w 41 #[.int .i64 s.op,.int .i64 s.line,.string (bs s.from_),.string (bs s.mode),.bool s.force,.slice Ap s.pairs.length kp,.bool s.bare,vw,.slice Ad s.docs.length kd,ve];obtain ⟨w1,hw1⟩:∃ x,w.alloc (.cells #[.int .i64 s.op,.int .i64 s.line,.string (bs s.from_),.string (bs s.mode),.bool s.force,.slice Ap s.pairs.length kp,.bool s.bare,vw,.slice Ad s.docs.length kd,ve] 41)=x:=⟨_,rfl⟩
 have hz1:w1.heap.size=w.heap.size+1:=by rw [←hw1,Jb]
 rw [hw1] at hal hk;have HW1:=hY hw1;have HAL:=hY hal;have HK:=hY hk;have HP1:=hY (hcp.new hal);have HV1:=hY (hcw.new hal);have HD1:=hY (hcd.new hal);have HE1:=hY (hce.new hal);have HT1:=hY (hT.new hal);have HZ1:=hY hz1;have HL:=hY hL;have hsz1:w.heap.size+1≤w1.heap.size:=by omega
 clear hw1 hal hk hz1 hcp hcw hcd hce hT hL;go_enter Tryz.func95,Tryz.ntmps95;go_upto_region 1 with fail;rw [HW1.out];have b2:w1.cell? ⟨w.heap.size,2,none⟩=some (.string (bs s.from_)):=HK.out.cell 2;have b3:w1.cell? ⟨w.heap.size,3,none⟩=some (.string (bs s.mode)):=HK.out.cell 3;have b7:w1.cell? ⟨w.heap.size,7,none⟩=some vw:=HK.out.cell 7;have b9:w1.cell? ⟨w.heap.size,9,none⟩=some ve:=HK.out.cell 9;have lW:(sc s.words).length=s.words.length*1:=by rw [Zb,Kq]
 have lE:(sc s.exec).length=s.exec.length*1:=by rw [Zb,Kq]
 have LW:=hY lW;have LE:=hY lE;have HO0:=hY (X6 w1 (w.heap.size+1) [.string (bs s.from_),.string (bs s.mode)] 9 2 rfl (by omega) hsz1);have HB0:=hY ((Ja (w.heap.size+1) w1).alloc hsz1 (.cells #[.string (bs s.from_),.string (bs s.mode)] 9));have HSW:=hY (HV1.out.new ((Ja w1.heap.size w1).alloc (Jd _) (.cells #[.string (bs s.from_),.string (bs s.mode)] 9)));have HSZ:Hid (w.heap.size+1≤(w1.alloc (.cells #[.string (bs s.from_),.string (bs s.mode)] 9)).heap.size):=hY (by rw [Jb];omega);have A2:Hid (∀ o,(w1.alloc o).cell? ⟨w.heap.size,2,none⟩=some (.string (bs s.from_))):=hY fun o=>(HK.out.alloc o).cell 2;have A3:Hid (∀ o,(w1.alloc o).cell? ⟨w.heap.size,3,none⟩=some (.string (bs s.mode))):=hY fun o=>(HK.out.alloc o).cell 3;have A7:Hid (∀ o,(w1.alloc o).cell? ⟨w.heap.size,7,none⟩=some vw):=hY fun o=>(HK.out.alloc o).cell 7;have A9:Hid (∀ o,(w1.alloc o).cell? ⟨w.heap.size,9,none⟩=some ve):=hY fun o=>(HK.out.alloc o).cell 9;clear lW lE;go_cut [3] (fun s3 wx=>Hid (wx.ownsRow (w.heap.size+1) 9 1 s3 ([s.from_,s.mode]++s.words++s.exec).length (sc ([s.from_,s.mode]++s.words++s.exec)))∧Hid (Below (w.heap.size+1) w1 wx))
 case first =>
  go_region_held3 (fun w'=>w'.cell? ⟨w.heap.size,2,none⟩=some (.string (bs s.from_))∧w'.cell? ⟨w.heap.size,3,none⟩=some (.string (bs s.mode))∧w'.cell? ⟨w.heap.size,7,none⟩=some vw∧w'.cell? ⟨w.heap.size,9,none⟩=some ve) (first | exact ⟨b2,b3,b7,b9⟩ | exact ⟨A2.out _,A3.out _,A7.out _,A9.out _⟩ | exact HS2.out | exact HS3.out)
   (first
    | (refine ZM rfl _ _ _ rfl Yz (w.heap.size+1) _ 2 [.string (bs s.from_),.string (bs s.mode)] rfl HO0.out vw s.words.length (sc s.words) rfl HSW.out LW.out (YD _) (by omega) (by omega) HB0.out.drew HSZ.out ?_;intro v1 w2 ho1 hb1 hg1 hat1;have HO2:=hY ho1;have HB2:=hY hb1;have hk2:=HK.out.below hb1 (by omega);have HSE:=hY (Z5 HZ1.out hb1 HE1.out);have HS2:=hY (And.intro (hk2.cell 2) (And.intro (hk2.cell 3) (And.intro (hk2.cell 7) (hk2.cell 9))));clear ho1 hb1 hg1 hat1 hk2)
    | (refine ZM rfl _ _ _ rfl Yz (w.heap.size+1) _ (2+s.words.length) _ rfl HO2.out ve s.exec.length (sc s.exec) rfl HSE.out LE.out (YD _) (by omega) (by omega) HB2.out (Jg hsz1 HB2.out.size) ?_;intro v2 w3 ho2 hb2 hg2 hat2;have HO3:=hY ho2;have HB3:=hY hb2;have hk3:=HK.out.below hb2 (by omega);have HS3:=hY (And.intro (hk3.cell 2) (And.intro (hk3.cell 3) (And.intro (hk3.cell 7) (hk3.cell 9))));clear ho2 hb2 hg2 hat2 hk3))
  go_wp2_with fail;go_meet;refine ⟨?_,HB3⟩;have h:=HO3.out;rw [show ([.string (bs s.from_),.string (bs s.mode)]:List Value)=sc [s.from_,s.mode] from rfl,←zG,←zG] at h;rw [show ([s.from_,s.mode]++s.words++s.exec).length=2+s.words.length+s.exec.length by simp only [Jf,Ji,Jp]];exact hY h
 case rest =>
  obtain ⟨HOc,HBc⟩:=hcut;rename World=>w2;obtain ⟨L0,hL0⟩:∃ L,[s.from_,s.mode]++s.words++s.exec=L:=⟨_,rfl⟩
  rw [hL0] at HOc;have hl0:L0.length=2+s.words.length+s.exec.length:=by rw [←hL0];simp only [Jf,Ji,Jp]
  have HTX:Hid (Ck.textsL s=L0++Qn s.pairs++jt s.docs):=hY (by rw [←hL0];rfl);have hl0':L0.length≤1050002:=by omega
  have hnp:s.pairs.length≤1050000:=by omega
  have hnd:s.docs.length≤1050000:=by omega
  have hnn:L0.length+s.pairs.length+s.docs.length≤1050002:=by omega
  clear hL0 hl0 b2 b3 b7 b9 A2 A3 A7 A9 HO0 HB0 HSW HSZ LW LE;obtain ⟨A3,c3,hv⟩:=zc HOc.out;subst hv;have b5:w2.cell? ⟨w.heap.size,5,none⟩=some (.slice Ap s.pairs.length kp):=(HK.out.below HBc.out (by omega)).cell 5;go_wp2_with fail;go_loopw [3,5,24] (fun t3 _ t24 wr=>∃ (i:Nat) (L:List (List UInt8)),i≤s.pairs.length∧t24=.int .i64 (i:Int)∧Hid (wr.ownsRow (w.heap.size+1) 9 1 t3 L.length (sc L))∧Hid (L=L0++Qn (s.pairs.take i))∧L.length≤L0.length+2*i∧Hid (Below (w.heap.size+1) w1 wr)) (fun _ _ t24 _=>s.pairs.length - (intOf t24).toNat)
  case atStart=>exact ⟨0,L0,by omega,rfl,HOc,hY (by simp [Qn]),by omega,HBc⟩
  case round =>
   as_aux_lemma =>
   rename World=>wr;obtain ⟨i,L,hi,rfl,HO,HLe,hll,HB⟩:=hrel;clear HOc HBc b5;obtain ⟨A4,c4,hv⟩:=zc HO.out;subst hv;rcases Jh i s.pairs.length with hin | hin
   · have i0:decide ((i:Int)<(s.pairs.length:Int))=true:=dT (by omega);have i1:(i:Int)<(s.pairs.length:Int):=by omega
     have j0:(0:Int)≤(i:Int):=by omega
     obtain ⟨g,o,c,hv,c0,c1⟩:=ZB (Z5 HZ1.out HB.out HP1.out) hin;injection hv with hA _ _;subst hA;have HSN:=hY (WO s.pairs i hin);obtain ⟨x,hx⟩:∃ x,s.pairs[i].key=x:=⟨_,rfl⟩
     obtain ⟨y,hy⟩:∃ y,s.pairs[i].val=y:=⟨_,rfl⟩
     rw [hx] at c0 HSN;rw [hy] at c1 HSN;clear hx hy;have hown:=HO.out;have hszr:w.heap.size+1≤wr.heap.size:=Jg hsz1 HB.out.size;have HOA:=hY ((hown.alloc (.cells #[.string (bs x),.string (bs y)] 61)).alloc (.cells #[.string (bs x),.string (bs y)] 9));have HBA:=hY (((HB.out).alloc hszr (.cells #[.string (bs x),.string (bs y)] 61)).alloc (by rw [Jb];omega) (.cells #[.string (bs x),.string (bs y)] 9));have HSA:Hid (w.heap.size+1≤((wr.alloc (.cells #[.string (bs x),.string (bs y)] 61)).alloc (.cells #[.string (bs x),.string (bs y)] 9)).heap.size):=hY (by rw [Jb,Jb];omega);have HNA:=hY (jI (w:=wr.alloc (.cells #[.string (bs x),.string (bs y)] 61)) (cs:=[.string (bs x),.string (bs y)]) (e:=9) (n:=2) (g:=wr.heap.size+1) (by rw [Jb]));clear hown;go_wp2_with (at_builtin;refine zp rfl _ _ _ rfl Yz (w.heap.size+1) _ L.length (sc L) rfl HOA.out _ 2 [.string (bs x),.string (bs y)] rfl HNA.out rfl YC (by omega) (by omega) HBA.out HSA.out ?_;intro v1 w8 ho1 hb1 hg1 hat1;have HO8:=hY ho1;have HB8:=hY hb1;clear ho1 hb1 hg1 hat1);go_roundw
     case rel=>exact ⟨_,_,_,⟨i+1,by omega,by go_num,L++[x,y],hY (by rw [zG,Jf];exact HO8.out),hY (by rw [HSN.out,HLe.out,Kv]),by simp only [Jf,Ji,Jp];omega⟩,rfl,rfl,rfl⟩
     case measure=>simp [intOf];omega
   · have i0:decide ((i:Int)<(s.pairs.length:Int))=false:=dF (by omega);have e0:=i0;have e0n:decide (i<s.pairs.length)=false:=dF (by omega);have HLp:Hid (L=L0++Qn s.pairs):=hY (by rw [HLe.out,List.take_of_length_le hin]);have b8:wr.cell? ⟨w.heap.size,8,none⟩=some (.slice Ad s.docs.length kd):=(HK.out.below HB.out (by omega)).cell 8;have hLl:L.length≤L0.length+2*s.pairs.length:=by omega
     obtain ⟨L1,hL1⟩:∃ L1,L1=L:=⟨_,rfl⟩
     have HL1:=hY hL1;clear HLe hL1;go_wp2_with fail;go_loopw [3,7,39] (fun t3 _ t39 wq=>∃ (i:Nat) (M:List (List UInt8)),i≤s.docs.length∧t39=.int .i64 (i:Int)∧Hid (wq.ownsRow (w.heap.size+1) 9 1 t3 M.length (sc M))∧Hid (M=L++jt (s.docs.take i))∧M.length≤L.length+2*i∧Hid (Below (w.heap.size+1) w1 wq)) (fun _ _ t39 _=>s.docs.length - (intOf t39).toNat)
     case atStart=>exact ⟨0,L,by omega,rfl,HO,hY (by simp [jt]),by omega,HB⟩
     case round =>
      as_aux_lemma =>
      rename World=>wq;obtain ⟨j,M,hj,rfl,HO2,HM,hml,HB2⟩:=hrel;clear HO HB b8 i0;obtain ⟨A5,c5,hv⟩:=zc HO2.out;subst hv;rcases Jh j s.docs.length with hjn | hjn
      · have i0:decide ((j:Int)<(s.docs.length:Int))=true:=dT (by omega);have i1:(j:Int)<(s.docs.length:Int):=by omega
        have j0:(0:Int)≤(j:Int):=by omega
        obtain ⟨g,o,c,hv,c0,c1,c2,c3⟩:=ZH (Z5 HZ1.out HB2.out HD1.out) hjn;injection hv with hA _ _;subst hA;have HSN:=hY (Vi s.docs j hjn);obtain ⟨x,hx⟩:∃ x,s.docs[j].name=x:=⟨_,rfl⟩
        obtain ⟨y,hy⟩:∃ y,s.docs[j].text=y:=⟨_,rfl⟩
        obtain ⟨q,hq⟩:∃ y,s.docs[j].raw=y:=⟨_,rfl⟩
        obtain ⟨z,hz⟩:∃ y,s.docs[j].line=y:=⟨_,rfl⟩
        rw [hx] at c0 HSN;rw [hy] at c3 HSN;rw [hq] at c1;rw [hz] at c2;clear hx hy hq hz;have hown:=HO2.out;have hszr:w.heap.size+1≤wq.heap.size:=Jg hsz1 HB2.out.size;have HOA:=hY ((hown.alloc (.cells #[.string (bs x),.bool q,.int .i64 z,.string (bs y)] 63)).alloc (.cells #[.string (bs x),.string (bs y)] 9));have HBA:=hY (((HB2.out).alloc hszr (.cells #[.string (bs x),.bool q,.int .i64 z,.string (bs y)] 63)).alloc (by rw [Jb];omega) (.cells #[.string (bs x),.string (bs y)] 9));have HSA:Hid (w.heap.size+1≤((wq.alloc (.cells #[.string (bs x),.bool q,.int .i64 z,.string (bs y)] 63)).alloc (.cells #[.string (bs x),.string (bs y)] 9)).heap.size):=hY (by rw [Jb,Jb];omega);have HNA:=hY (jI (w:=wq.alloc (.cells #[.string (bs x),.bool q,.int .i64 z,.string (bs y)] 63)) (cs:=[.string (bs x),.string (bs y)]) (e:=9) (n:=2) (g:=wq.heap.size+1) (by rw [Jb]));clear hown;go_wp2_with (at_builtin;refine zp rfl _ _ _ rfl Yz (w.heap.size+1) _ M.length (sc M) rfl HOA.out _ 2 [.string (bs x),.string (bs y)] rfl HNA.out rfl YC (by omega) (by omega) HBA.out HSA.out ?_;intro v1 w8 ho1 hb1 hg1 hat1;have HO8:=hY ho1;have HB8:=hY hb1;clear ho1 hb1 hg1 hat1);go_roundw
        case rel=>exact ⟨_,_,_,⟨j+1,by omega,by go_num,M++[x,y],hY (by rw [zG,Jf];exact HO8.out),hY (by rw [HSN.out,HM.out,Kv]),by simp only [Jf,Ji,Jp];omega⟩,rfl,rfl,rfl⟩
        case measure=>simp [intOf];omega
      · have i0:decide ((j:Int)<(s.docs.length:Int))=false:=dF (by omega);have HME:Hid (Ck.textsL s=M):=hY (by rw [HTX.out,HM.out,List.take_of_length_le hjn,HLp.out]);have hMl:M.length≤4000000:=by omega
        have H0:Hid ((M.drop 0).any Ck.badT=b):=hY (by rw [Jw,←HME.out];exact H.out);have HML:Hid (∀ t∈M,t.length≤9223372036854775807):=hY (by rw [←HME.out];exact HL.out);clear HM;have HSM:=hY (SlA.own HO2.out);go_wp2_with fail;have i0n:decide (j<s.docs.length)=false:=dF (by omega)
        try simp only [i0,e0,i0n,e0n]
        go_loopw [9,53] (fun _ t53 wp=>∃ (i:Nat),i≤M.length∧t53=.int .i64 (i:Int)∧Hid ((M.drop i).any Ck.badT=b)∧Hid (Below wq.heap.size wq wp)) (fun _ t53 _=>M.length - (intOf t53).toNat)
        case atStart=>exact ⟨0,by omega,rfl,H0,hY (Ja _ _)⟩
        case round =>
         as_aux_lemma =>
         rename World=>wp;obtain ⟨i,hi,rfl,HR,HBp⟩:=hrel;clear H0;have HWP:=hY ((HB2.out.trans (HBp.out.mono (Jg hsz1 HB2.out.size))));rcases Jh i M.length with hin | hin
         · have k0:decide ((i:Int)<(M.length:Int))=true:=dT (by omega);have i1:(i:Int)<(M.length:Int):=by omega
           have j0:(0:Int)≤(i:Int):=by omega
           obtain ⟨g,o,c,hv,c0⟩:=Yf (HSM.out.new HBp.out) hin;injection hv with hA _ hcc;subst hA;subst hcc;have hR:=HR.out;rw [Js hin,List.any_cons] at hR;have hxl:=HML.out _ (Jl hin);obtain ⟨x,hx⟩:∃ x,M[i]=x:=⟨_,rfl⟩
           rw [hx] at c0 hR hxl;obtain ⟨d,hd⟩:∃ d,Hid (Ck.badT x=d):=⟨_,hY rfl⟩
           rw [hd.out] at hR;have HR2:=hY hR;have HXL:=hY hxl;have HTp:=hY (HT1.out.new (by rw [HZ1.out];exact HWP.out));clear hx hR HR hxl;cases d with
           | true =>have HF:Hid (b=true):=hY (by rw [←HR2.out];rfl);go_wp2_with fail;refine (ZK x _ HXL.out HTp.out hd).mono ?_;rintro r w9 ⟨rfl,p9⟩;have HE:=hY (((HAL.out.trans ((HWP.out.trans (p9.mono (by have:=HBp.out.size;have:=HB2.out.size;omega))).mono (by omega)))));clear p9;go_wp2_with fail;go_ret;exact ⟨by rw [HF.out];rfl,HE.out⟩
           | false =>
            have HF:Hid ((M.drop (i+1)).any Ck.badT=b):=hY (by rw [←HR2.out];rfl);go_wp2_with fail;refine (ZK x _ HXL.out HTp.out hd).mono ?_;rintro r w9 ⟨rfl,p9⟩;have HE:=hY (HBp.out.trans (p9.mono HBp.out.size));clear p9;go_wp2_with fail;go_roundw
            case rel =>
             try simp only [i0,e0,i0n,e0n]
             exact ⟨i+1,by omega,by go_num,HF,HE⟩
            case measure=>simp [intOf];omega
         · have k0:decide ((i:Int)<(M.length:Int))=false:=dF (by omega);have HF:Hid (b=false):=hY (by rw [←HR.out,Jt hin];rfl);have HE:=hY (HAL.out.trans (HWP.out.mono (by omega)));clear HR;go_wp2_with fail;go_ret;exact ⟨by rw [HF.out];rfl,HE.out⟩
theorem docKd:yP Tryz.prog 39 63 (.agg #[.string ⟨#[]⟩,.bool false,.int .i64 0,.string ⟨#[]⟩]) 4 48:=⟨Tryz.underlying39,by kernel_rfl,rfl,by decide⟩
theorem UA:Tryz.prog.underlying 39=some (.slice (Tryz.prog.elem 39)):=by simp [Program.elem,Tryz.underlying39]
theorem Vh:Tryz.prog.elem 39=63:=by simp [Program.elem,Tryz.underlying39]
theorem Uj:∀ w,(Go.sizeOf 63).run Tryz.prog w=.ok 4 w:=by obtain ⟨i,hi,_⟩:=info_parts docKd.hi;intro w;rw [run_sizeOf w hi];rw [show Tryz.prog.cellsOf 63=4 by kernel_rfl]
theorem Q9 {w:World} {A:Option Addr} {c:Nat} {d:Lx.Dc} {r:List Lx.Dc} (h:SlA w (.slice A (d::r).length c) (d::r).length (yI (d::r))) (hc:(d::r).length≤c):
  ∃ A',(∀ wx,(Instr.slice 39 (.slice A (r.length+1) c) (some (.int .i64 1)) none none).run Tryz.prog wx=.ok (.slice A' r.length (c - 1)) wx)∧SlA w (.slice A' r.length (c - 1)) r.length (yI r)∧r.length≤c - 1:=by
 rcases h with ⟨_,h0,_⟩ | ⟨g,o,c',hv,hcell⟩
 · cases h0
 · injection hv with hA _ hc';subst hA hc';have hl:(d::r).length=r.length+1:=rfl;rw [hl] at hc
   by_cases h1:c=1
   · have hr:r=[]:=Ki (by omega);subst hr h1;refine ⟨some ⟨g,o,none⟩,fun wx=>?_,.inr ⟨g,o,_,rfl,fun j u hu=>by simp [yI] at hu⟩,Nat.zero_le _⟩;rw [run_slice_l wx 39 _ _ _ UA .i64 _ (by omega) (by simp),Vh,Uj];simp [Result.andThen,sliced]
   · refine ⟨some ⟨g,o+4,none⟩,fun wx=>?_,.inr ⟨g,o+4,_,rfl,fun j u hu=>?_⟩,by omega⟩
     · rw [run_slice_l wx 39 _ _ _ UA .i64 _ (by omega) (by omega),Vh,Uj];simp [Result.andThen,sliced,Addr.add,h1]
     · rw [Nat.add_assoc];refine hcell _ _ ?_;rw [yI,Ke,Kc (by show 4≤4+j;omega)];show (r.flatMap doL)[4+j - 4]?=some u;rw [Nat.add_sub_cancel_left];exact hu
end Go.Proofs.YtdaejggcjjdhkaaGreatDoor
