/- strataref18: leaves, walked. -/
import Derived.Test.YtdaejggcjjdhkaaGreatDoorMkC
import Derived.Test.YtdaejggcjjdhkaaGreatDoorMkB
import Derived.Deep.CutBlock
import Derived.Test.YtdaejggcjjdhkaaGreatDoorCkV
set_option maxHeartbeats 4000000
set_option maxRecDepth 100000
namespace Go.Proofs.YtdaejggcjjdhkaaGreatDoor
open Go Go.RowKit
namespace Ck
def goB (p:Bool→UInt8→Bool):Nat→List UInt8→Bool
 | _,[]=>true
 | i,c::r=>p (i==0) c&&goB p (i+1) r
theorem Wi (p:Bool→UInt8→Bool) (f:UInt8→Bool) (h:∀ c,p false c=f c):∀ (r:List UInt8) (i:Nat),goB p (i+1) r=r.all f
 | [],_=>rfl
 | c::r,i=>by rw [goB,show (i+1==0)=false from rfl,h,Wi p f h r (i+1),List.all_cons]
theorem Wj (f:UInt8→Bool) (r:List UInt8):goB (fun _ c=>f c) 0 r=r.all f:=by
 cases r with
 | nil=>rfl
 | cons c r=>rw [goB,Wi _ f (fun _=>rfl),List.all_cons]
def labB (c:UInt8):Bool:=small c||big c||digit c||c==46||c==45||c==95||c==47
def stB (z:Bool) (c:UInt8):Bool:=small c||(!z&&(digit c||c==45||c==95||c==46))
theorem label_go (s:List UInt8):labelR s=(goB (fun _ c=>labB c) 0 s&&!s.isEmpty):=by rw [Wj];rfl
theorem digits_go (s:List UInt8):digitsR s=(goB (fun _ c=>digit c) 0 s&&!s.isEmpty):=by rw [Wj];rfl
theorem mode_go (s:List UInt8):modeR s=(goB (fun _ c=>oct c) 0 s&&(decide (1≤s.length)&&decide (s.length≤4))):=by rw [Wj,modeR,Bool.and_assoc]
theorem stage_go (s:List UInt8):stageR s=(goB stB 0 s&&(!s.isEmpty&&decide (s.length≤96)&&decide (s≠scratch))):=by
 cases s with
 | nil=>rfl
 | cons c r =>rw [goB,Wi stB (fun c=>small c||digit c||c==45||c==95||c==46) (fun c=>by simp [stB,Bool.or_assoc])];rw [show stB (0==0) c=small c by simp [stB]];simp only [stageR,List.isEmpty_cons,Bool.not_false,Bool.true_and,Bool.and_assoc]
end Ck
theorem Wm (s:List UInt8) (hs:s.length≤2000000) (w:World) {b:Bool} (H:Hid (Ck.digitsR s=b)):Calls Tryz.prog 122 #[.string (bs s)] w fun e w'=>e=.returned (.bool b)∧w=w':=by
 have hz:=zd s;have HZ:=hY hz;have hs2:(bs s).size≤2000000:=by omega
 obtain ⟨n0,en⟩:∃ n0,(bs s).toList.isEmpty=n0:=⟨_,rfl⟩
 have H0:Hid ((Ck.goB (fun _ c=>Ck.digit c) 0 (s.drop 0)&&(!n0))=b):=hY (by rw [Jw,←H.out,Ck.digits_go,←en,zh]);clear hz H;go_enter Tryz.func122,Tryz.ntmps122;go_wp2_with fail;go_loopw [3] (fun t3 wr=>∃ i:Nat,i≤(bs s).size∧t3=.int .i64 (i:Int)∧Hid ((Ck.goB (fun _ c=>Ck.digit c) i (s.drop i)&&(!n0))=b)∧w=wr) (fun t3 _=>(bs s).size - (intOf t3).toNat)
 case atStart=>exact ⟨0,by omega,rfl,H0,by trivial⟩
 case round =>
  clear H0;obtain ⟨i,hi,rfl,HR,rfl⟩:=hrel;have j0:(0:Int)≤(i:Int):=by omega
  rcases Jh i (bs s).size with hin | hin
  · have i0:decide ((i:Int)<((bs s).size:Int))=true:=dT (by omega);have i1:(i:Int)<((bs s).size:Int):=by omega
    have hil:i<s.length:=by rw [←HZ.out];exact hin
    have hR:=HR.out;rw [Js hil,show s[i]=(bs s)[i]'hin from rfl,Ck.goB] at hR;obtain ⟨c,hc⟩:∃ c,(bs s)[i]'hin=c:=⟨_,rfl⟩
    rw [hc] at hR;have hby:c.toNat<256:=Jm _;obtain ⟨z,e4⟩:∃ z,(i==0)=z:=⟨_,rfl⟩
    have e5:((i:Int)==0)=z:=by rw [←e4,Jz,Jx,Jx];omega
    obtain ⟨d,hd⟩:∃ d,Hid (Ck.digit c=d):=⟨_,hY rfl⟩
    obtain ⟨q,hq⟩:∃ q,(!d)=q:=⟨_,rfl⟩
    have hT:Ck.digit c=!q:=by show Ck.digit c=_;rw [hd.out,←hq,Bool.not_not]
    rw [hT] at hR;have HQ:=hY hq;have HN:=hY hR;clear hR HR hq hil hT;go_upto_region 4 with fail;go_cut [14] (fun sq wx=>sq=.bool q∧w=wx)
    case first =>
     clear HN;cases d <;> (
      go_wp2_with fail;refine (zL c _ hd).mono ?_;rintro r w1 ⟨rfl,rfl⟩;go_wp2_with fail;go_meet;exact ⟨by rw [←HQ.out];rfl,by trivial⟩)
    case rest =>
     obtain ⟨rfl,rfl⟩:=hcut;clear  e4 e5 HQ;have hN:=HN.out;cases q with
     | true =>have HF:Hid (b=false):=hY (by rw [←hN];rfl);clear hN HN;go_wp2_with fail;go_ret;exact ⟨by rw [HF.out];rfl,by trivial⟩
     | false =>
      have HF:Hid ((Ck.goB (fun _ c=>Ck.digit c) (i+1) (s.drop (i+1))&&(!n0))=b):=hY (by rw [←hN];rfl);clear hN HN;go_wp2_with fail;go_roundw
      case rel=>exact ⟨i+1,by omega,by go_num,HF,by trivial⟩
      case measure=>simp [intOf];omega
  · have i0:decide ((i:Int)<((bs s).size:Int))=false:=dF (by omega);have e0n:decide (i<(bs s).size)=false:=dF (by omega);have hil:s.length≤i:=by rw [←HZ.out];exact hin
    have HF:Hid (b=(!n0)):=hY (by rw [←HR.out,Jt hil];rfl);clear HR hil;cases n0 <;> (
     go_wp2_with fail;go_ret;exact ⟨by rw [HF.out];rfl,by trivial⟩)
theorem W5 (s:List UInt8) (hs:s.length≤2000000) (w:World) {b:Bool} (H:Hid (Ck.labelR s=b)):Calls Tryz.prog 124 #[.string (bs s)] w fun e w'=>e=.returned (.bool b)∧w=w':=by
 have hz:=zd s;have HZ:=hY hz;have hs2:(bs s).size≤2000000:=by omega
 obtain ⟨n0,en⟩:∃ n0,(bs s).toList.isEmpty=n0:=⟨_,rfl⟩
 have H0:Hid ((Ck.goB (fun _ c=>Ck.labB c) 0 (s.drop 0)&&(!n0))=b):=hY (by rw [Jw,←H.out,Ck.label_go,←en,zh]);clear hz H;go_enter Tryz.func124,Tryz.ntmps124;go_wp2_with fail;go_loopw [3] (fun t3 wr=>∃ i:Nat,i≤(bs s).size∧t3=.int .i64 (i:Int)∧Hid ((Ck.goB (fun _ c=>Ck.labB c) i (s.drop i)&&(!n0))=b)∧w=wr) (fun t3 _=>(bs s).size - (intOf t3).toNat)
 case atStart=>exact ⟨0,by omega,rfl,H0,by trivial⟩
 case round =>
  clear H0;obtain ⟨i,hi,rfl,HR,rfl⟩:=hrel;have j0:(0:Int)≤(i:Int):=by omega
  rcases Jh i (bs s).size with hin | hin
  · have i0:decide ((i:Int)<((bs s).size:Int))=true:=dT (by omega);have i1:(i:Int)<((bs s).size:Int):=by omega
    have hil:i<s.length:=by rw [←HZ.out];exact hin
    have hR:=HR.out;rw [Js hil,show s[i]=(bs s)[i]'hin from rfl,Ck.goB] at hR;obtain ⟨c,hc⟩:∃ c,(bs s)[i]'hin=c:=⟨_,rfl⟩
    rw [hc] at hR;have hby:c.toNat<256:=Jm _;obtain ⟨z,e4⟩:∃ z,(i==0)=z:=⟨_,rfl⟩
    have e5:((i:Int)==0)=z:=by rw [←e4,Jz,Jx,Jx];omega
    obtain ⟨l,hl⟩:∃ l,Hid ((Ck.small c||Ck.big c)=l):=⟨_,hY rfl⟩
    obtain ⟨d,hd⟩:∃ d,Hid (Ck.digit c=d):=⟨_,hY rfl⟩
    obtain ⟨x46,e46⟩:∃ x,((c.toNat:Int) != 46)=x:=⟨_,rfl⟩
    obtain ⟨x45,e45⟩:∃ x,((c.toNat:Int) != 45)=x:=⟨_,rfl⟩
    obtain ⟨x95,e95⟩:∃ x,((c.toNat:Int) != 95)=x:=⟨_,rfl⟩
    obtain ⟨x47,e47⟩:∃ x,((c.toNat:Int) != 47)=x:=⟨_,rfl⟩
    obtain ⟨q,hq⟩:∃ q,(!l&&!d&&x46&&x45&&x95&&x47)=q:=⟨_,rfl⟩
    have hT:Ck.labB c=!q:=by
     have f46:(c==46)=!x46:=by rw [←e46,show (46:Int)=(((46:UInt8).toNat:Nat):Int) from rfl,zO,Bool.not_not]
     have f45:(c==45)=!x45:=by rw [←e45,show (45:Int)=(((45:UInt8).toNat:Nat):Int) from rfl,zO,Bool.not_not]
     have f95:(c==95)=!x95:=by rw [←e95,show (95:Int)=(((95:UInt8).toNat:Nat):Int) from rfl,zO,Bool.not_not]
     have f47:(c==47)=!x47:=by rw [←e47,show (47:Int)=(((47:UInt8).toNat:Nat):Int) from rfl,zO,Bool.not_not]
     show Ck.labB c=_;unfold Ck.labB;rw [hl.out,hd.out,f46,f45,f95,f47,←hq];cases l <;> cases d <;> cases x46 <;> cases x45 <;> cases x95 <;> cases x47 <;> rfl
    rw [hT] at hR;have HQ:=hY hq;have HN:=hY hR;clear hR HR hq hil hT;go_upto_region 4 with fail;go_cut [45] (fun sq wx=>sq=.bool q∧w=wx)
    case first =>
     clear HN;cases l with
     | true =>go_wp2_with fail;refine (zX c _ hl).mono ?_;rintro r w1 ⟨rfl,rfl⟩;go_wp2_with fail;go_meet;exact ⟨by rw [←HQ.out];rfl,by trivial⟩
     | false =>
      cases d with
      | true =>go_wp2_with fail;refine (zX c _ hl).mono ?_;rintro r w1 ⟨rfl,rfl⟩;go_wp2_with fail;refine (zL c _ hd).mono ?_;rintro r w1 ⟨rfl,rfl⟩;go_wp2_with fail;go_meet;exact ⟨by rw [←HQ.out];rfl,by trivial⟩
      | false =>
       cases x46 <;> cases x45 <;> cases x95 <;> cases x47 <;> (
        go_wp2_with fail;refine (zX c _ hl).mono ?_;rintro r w1 ⟨rfl,rfl⟩;go_wp2_with fail;refine (zL c _ hd).mono ?_;rintro r w1 ⟨rfl,rfl⟩;go_wp2_with fail;go_meet;exact ⟨by rw [←HQ.out];rfl,by trivial⟩)
    case rest =>
     obtain ⟨rfl,rfl⟩:=hcut;clear e46 e45 e95 e47 e4 e5 HQ;have hN:=HN.out;cases q with
     | true =>have HF:Hid (b=false):=hY (by rw [←hN];rfl);clear hN HN;go_wp2_with fail;go_ret;exact ⟨by rw [HF.out];rfl,by trivial⟩
     | false =>
      have HF:Hid ((Ck.goB (fun _ c=>Ck.labB c) (i+1) (s.drop (i+1))&&(!n0))=b):=hY (by rw [←hN];rfl);clear hN HN;go_wp2_with fail;go_roundw
      case rel=>exact ⟨i+1,by omega,by go_num,HF,by trivial⟩
      case measure=>simp [intOf];omega
  · have i0:decide ((i:Int)<((bs s).size:Int))=false:=dF (by omega);have e0n:decide (i<(bs s).size)=false:=dF (by omega);have hil:s.length≤i:=by rw [←HZ.out];exact hin
    have HF:Hid (b=(!n0)):=hY (by rw [←HR.out,Jt hil];rfl);clear HR hil;cases n0 <;> (
     go_wp2_with fail;go_ret;exact ⟨by rw [HF.out];rfl,by trivial⟩)
theorem VN (s:List UInt8) (hs:s.length≤2000000) (w:World) {b:Bool} (H:Hid (Ck.modeR s=b)):Calls Tryz.prog 123 #[.string (bs s)] w fun e w'=>e=.returned (.bool b)∧w=w':=by
 have hz:=zd s;have HZ:=hY hz;have hs2:(bs s).size≤2000000:=by omega
 obtain ⟨y1,g1⟩:∃ y,decide ((1:Int)≤((bs s).size:Int))=y:=⟨_,rfl⟩
 obtain ⟨y2,g2⟩:∃ y,decide (((bs s).size:Int)≤4)=y:=⟨_,rfl⟩
 have q1:decide (1≤s.length)=y1:=by rw [←g1,Jz,Jj,Jj];omega
 have q2:decide (s.length≤4)=y2:=by rw [←g2,Jz,Jj,Jj];omega
 have H0:Hid ((Ck.goB (fun _ c=>Ck.oct c) 0 (s.drop 0)&&(y1&&y2))=b):=hY (by rw [Jw,←H.out,Ck.mode_go,q1,q2]);clear hz H;go_enter Tryz.func123,Tryz.ntmps123;go_wp2_with fail;go_loopw [3] (fun t3 wr=>∃ i:Nat,i≤(bs s).size∧t3=.int .i64 (i:Int)∧Hid ((Ck.goB (fun _ c=>Ck.oct c) i (s.drop i)&&(y1&&y2))=b)∧w=wr) (fun t3 _=>(bs s).size - (intOf t3).toNat)
 case atStart=>exact ⟨0,by omega,rfl,H0,by trivial⟩
 case round =>
  clear H0;obtain ⟨i,hi,rfl,HR,rfl⟩:=hrel;have j0:(0:Int)≤(i:Int):=by omega
  rcases Jh i (bs s).size with hin | hin
  · have i0:decide ((i:Int)<((bs s).size:Int))=true:=dT (by omega);have i1:(i:Int)<((bs s).size:Int):=by omega
    have hil:i<s.length:=by rw [←HZ.out];exact hin
    have hR:=HR.out;rw [Js hil,show s[i]=(bs s)[i]'hin from rfl,Ck.goB] at hR;obtain ⟨c,hc⟩:∃ c,(bs s)[i]'hin=c:=⟨_,rfl⟩
    rw [hc] at hR;have hby:c.toNat<256:=Jm _;obtain ⟨z,e4⟩:∃ z,(i==0)=z:=⟨_,rfl⟩
    have e5:((i:Int)==0)=z:=by rw [←e4,Jz,Jx,Jx];omega
    obtain ⟨lo,h1⟩:∃ x,decide ((c.toNat:Int)<48)=x:=⟨_,rfl⟩
    obtain ⟨up,h2⟩:∃ x,decide ((55:Int)<(c.toNat:Int))=x:=⟨_,rfl⟩
    obtain ⟨q,hq⟩:∃ q,(lo||up)=q:=⟨_,rfl⟩
    have hT:Ck.oct c=!q:=by
     show Ck.oct c=_;have v1:decide (48≤c.toNat)=!lo:=by rw [←h1,Jz,Jj,Bool.not_eq_true',Ka];omega
     have v2:decide (c.toNat≤55)=!up:=by rw [←h2,Jz,Jj,Bool.not_eq_true',Ka];omega
     unfold Ck.oct;rw [v1,v2,←hq];cases lo <;> cases up <;> rfl
    rw [hT] at hR;have HQ:=hY hq;have HN:=hY hR;clear hR HR hq hil hT;go_upto_region 4 with fail;go_cut [19] (fun sq wx=>sq=.bool q∧w=wx)
    case first =>
     clear HN;cases lo <;> cases up <;> (
      go_wp2_with fail;go_meet;exact ⟨by rw [←HQ.out];rfl,by trivial⟩)
    case rest =>
     obtain ⟨rfl,rfl⟩:=hcut;clear  e4 e5 HQ;have hN:=HN.out;cases q with
     | true =>have HF:Hid (b=false):=hY (by rw [←hN];rfl);clear hN HN;go_wp2_with fail;go_ret;exact ⟨by rw [HF.out];rfl,by trivial⟩
     | false =>
      have HF:Hid ((Ck.goB (fun _ c=>Ck.oct c) (i+1) (s.drop (i+1))&&(y1&&y2))=b):=hY (by rw [←hN];rfl);clear hN HN;go_wp2_with fail;go_roundw
      case rel=>exact ⟨i+1,by omega,by go_num,HF,by trivial⟩
      case measure=>simp [intOf];omega
  · have i0:decide ((i:Int)<((bs s).size:Int))=false:=dF (by omega);have e0n:decide (i<(bs s).size)=false:=dF (by omega);have hil:s.length≤i:=by rw [←HZ.out];exact hin
    have HF:Hid (b=(y1&&y2)):=hY (by rw [←HR.out,Jt hil];rfl);clear HR hil;clear q1 q2;cases y1 <;> cases y2 <;> (
     go_wp2_with fail;go_ret;exact ⟨by rw [HF.out];rfl,by trivial⟩)
theorem Yu (s:List UInt8) (hs:s.length≤2000000) (w:World) {b:Bool} (H:Hid (Ck.stageR s=b)):Calls Tryz.prog 88 #[.string (bs s)] w fun e w'=>e=.returned (.bool b)∧w=w':=by
 have hz:=zd s;have HZ:=hY hz;have hs2:(bs s).size≤2000000:=by omega
 obtain ⟨n0,en⟩:∃ n0,(bs s).toList.isEmpty=n0:=⟨_,rfl⟩
 obtain ⟨y1,g1⟩:∃ y,decide (((bs s).size:Int)≤96)=y:=⟨_,rfl⟩
 obtain ⟨y2,g2⟩:∃ z,((bs s).toList==[115,99,114,97,116,99,104])=z:=⟨_,rfl⟩
 have q1:decide (s.length≤96)=y1:=by rw [←g1,Jz,Jj,Jj];omega
 have q2:decide (s≠Ck.scratch)=!y2:=by rw [←g2,zh,Jz,Jj,Bool.not_eq_true',Jr];exact Iff.rfl
 have H0:Hid ((Ck.goB Ck.stB 0 (s.drop 0)&&(!n0&&y1&&!y2))=b):=hY (by rw [Jw,←H.out,Ck.stage_go,←en,zh,q1,q2]);clear hz H;go_enter Tryz.func88,Tryz.ntmps88;go_wp2_with fail;go_loopw [3] (fun t3 wr=>∃ i:Nat,i≤(bs s).size∧t3=.int .i64 (i:Int)∧Hid ((Ck.goB Ck.stB i (s.drop i)&&(!n0&&y1&&!y2))=b)∧w=wr) (fun t3 _=>(bs s).size - (intOf t3).toNat)
 case atStart=>exact ⟨0,by omega,rfl,H0,by trivial⟩
 case round =>
  clear H0;obtain ⟨i,hi,rfl,HR,rfl⟩:=hrel;have j0:(0:Int)≤(i:Int):=by omega
  rcases Jh i (bs s).size with hin | hin
  · have i0:decide ((i:Int)<((bs s).size:Int))=true:=dT (by omega);have i1:(i:Int)<((bs s).size:Int):=by omega
    have hil:i<s.length:=by rw [←HZ.out];exact hin
    have hR:=HR.out;rw [Js hil,show s[i]=(bs s)[i]'hin from rfl,Ck.goB] at hR;obtain ⟨c,hc⟩:∃ c,(bs s)[i]'hin=c:=⟨_,rfl⟩
    rw [hc] at hR;have hby:c.toNat<256:=Jm _;obtain ⟨z,e4⟩:∃ z,(i==0)=z:=⟨_,rfl⟩
    have e5:((i:Int)==0)=z:=by rw [←e4,Jz,Jx,Jx];omega
    obtain ⟨m,hm⟩:∃ m,Hid (Ck.small c=m):=⟨_,hY rfl⟩
    obtain ⟨d,hd⟩:∃ d,Hid (Ck.digit c=d):=⟨_,hY rfl⟩
    obtain ⟨x45,e45⟩:∃ x,((c.toNat:Int) != 45)=x:=⟨_,rfl⟩
    obtain ⟨x95,e95⟩:∃ x,((c.toNat:Int) != 95)=x:=⟨_,rfl⟩
    obtain ⟨x46,e46⟩:∃ x,((c.toNat:Int) != 46)=x:=⟨_,rfl⟩
    obtain ⟨q,hq⟩:∃ q,(!m&&(z||(!d&&x45&&x95&&x46)))=q:=⟨_,rfl⟩
    have hT:Ck.stB (i==0) c=!q:=by
     have f45:(c==45)=!x45:=by rw [←e45,show (45:Int)=(((45:UInt8).toNat:Nat):Int) from rfl,zO,Bool.not_not]
     have f95:(c==95)=!x95:=by rw [←e95,show (95:Int)=(((95:UInt8).toNat:Nat):Int) from rfl,zO,Bool.not_not]
     have f46:(c==46)=!x46:=by rw [←e46,show (46:Int)=(((46:UInt8).toNat:Nat):Int) from rfl,zO,Bool.not_not]
     unfold Ck.stB;rw [hm.out,hd.out,f45,f95,f46,e4,←hq];cases m <;> cases z <;> cases d <;> cases x45 <;> cases x95 <;> cases x46 <;> rfl
    rw [hT] at hR;have HQ:=hY hq;have HN:=hY hR;clear hR HR hq hil hT;go_upto_region 4 with fail;go_cut [43] (fun sq wx=>sq=.bool q∧w=wx)
    case first =>
     clear HN;cases m with
     | true =>go_wp2_with fail;refine (zW c _ hm).mono ?_;rintro r w1 ⟨rfl,rfl⟩;go_wp2_with fail;go_meet;exact ⟨by rw [←HQ.out];rfl,by trivial⟩
     | false =>
      cases z with
      | true =>go_wp2_with fail;refine (zW c _ hm).mono ?_;rintro r w1 ⟨rfl,rfl⟩;go_wp2_with fail;go_meet;exact ⟨by rw [←HQ.out];rfl,by trivial⟩
      | false =>
       cases d with
       | true =>go_wp2_with fail;refine (zW c _ hm).mono ?_;rintro r w1 ⟨rfl,rfl⟩;go_wp2_with fail;refine (zL c _ hd).mono ?_;rintro r w1 ⟨rfl,rfl⟩;go_wp2_with fail;go_meet;exact ⟨by rw [←HQ.out];rfl,by trivial⟩
       | false =>
        cases x45 <;> cases x95 <;> cases x46 <;> (
         go_wp2_with fail;refine (zW c _ hm).mono ?_;rintro r w1 ⟨rfl,rfl⟩;go_wp2_with fail;refine (zL c _ hd).mono ?_;rintro r w1 ⟨rfl,rfl⟩;go_wp2_with fail;go_meet;exact ⟨by rw [←HQ.out];rfl,by trivial⟩)
    case rest =>
     obtain ⟨rfl,rfl⟩:=hcut;clear e45 e95 e46 e4 e5 HQ;have hN:=HN.out;cases q with
     | true =>have HF:Hid (b=false):=hY (by rw [←hN];rfl);clear hN HN;go_wp2_with fail;go_ret;exact ⟨by rw [HF.out];rfl,by trivial⟩
     | false =>
      have HF:Hid ((Ck.goB Ck.stB (i+1) (s.drop (i+1))&&(!n0&&y1&&!y2))=b):=hY (by rw [←hN];rfl);clear hN HN;go_wp2_with fail;go_roundw
      case rel=>exact ⟨i+1,by omega,by go_num,HF,by trivial⟩
      case measure=>simp [intOf];omega
  · have i0:decide ((i:Int)<((bs s).size:Int))=false:=dF (by omega);have e0n:decide (i<(bs s).size)=false:=dF (by omega);have hil:s.length≤i:=by rw [←HZ.out];exact hin
    have HF:Hid (b=(!n0&&y1&&!y2)):=hY (by rw [←HR.out,Jt hil];rfl);clear HR hil;clear q1 q2;cases n0 <;> cases y1 <;> cases y2 <;> (
     go_wp2_with fail;go_ret;exact ⟨by rw [HF.out];rfl,by trivial⟩)
namespace Ck
def nm1:Bool→List UInt8→Nat
 | _,[]=>0
 | z,c::r=>if Ex.letter c||(!z&&digit c) then 1+nm1 false r else 0
theorem QS:∀ r:List UInt8,nm1 false r=(r.takeWhile fun d=>Ex.letter d||digit d).length
 | []=>rfl
 | c::r=>by
  rw [nm1,List.takeWhile_cons,Bool.not_false,Bool.true_and]
  by_cases h:(Ex.letter c||digit c)=true
  · rw [if_pos h,if_pos h,QS r,Ji];omega
  · rw [if_neg h,if_neg h];rfl
theorem nm1_is (s:List UInt8):Ex.nmL s=nm1 true s:=by
 cases s with
 | nil=>rfl
 | cons c r =>rw [Ex.nmL,nm1,Bool.not_true,Bool.false_and,Bool.or_false,QS]
end Ck
theorem Vk (c:UInt8) (w:World) {b:Bool} (H:Hid (Ck.digit c=b)):Calls Tryz.prog 179 #[.int .u8 (c.toNat:Int)] w fun e w'=>e=.returned (.bool b)∧w=w':=by
 obtain ⟨b1,e1⟩:∃ b1,decide ((48:Int)≤(c.toNat:Int))=b1:=⟨_,rfl⟩
 obtain ⟨b2,e2⟩:∃ b2,decide ((c.toNat:Int)≤57)=b2:=⟨_,rfl⟩
 have HB:Hid (b=(b1&&b2)):=by show _=_;rw [←H.out,ZI,e1,e2]
 clear H;cases b1 <;> cases b2 <;> (
  go_enter Tryz.func179,Tryz.ntmps179;go_wp2_with fail;go_ret;exact ⟨by rw [HB.out];rfl,rfl⟩)
theorem Zo (c:UInt8) (w:World) {b:Bool} (H:Hid (Ex.letter c=b)):Calls Tryz.prog 178 #[.int .u8 (c.toNat:Int)] w fun e w'=>e=.returned (.bool b)∧w=w':=by
 obtain ⟨a1,g1⟩:∃ b1,decide ((97:Int)≤(c.toNat:Int))=b1:=⟨_,rfl⟩
 obtain ⟨a2,g2⟩:∃ b2,decide ((c.toNat:Int)≤122)=b2:=⟨_,rfl⟩
 obtain ⟨b1,e1⟩:∃ b1,decide ((65:Int)≤(c.toNat:Int))=b1:=⟨_,rfl⟩
 obtain ⟨b2,e2⟩:∃ b2,decide ((c.toNat:Int)≤90)=b2:=⟨_,rfl⟩
 obtain ⟨u,e3⟩:∃ u,((c.toNat:Int)==95)=u:=⟨_,rfl⟩
 have f3:(c==95)=u:=by have h:=zO c 95;rw [bne] at h;rw [←e3,show (95:Int)=(((95:UInt8).toNat:Nat):Int) from rfl];cases hx:((c.toNat:Int)==(((95:UInt8).toNat:Nat):Int)) <;> cases hy:(c==95) <;> simp_all
 have HB:Hid (b=((a1&&a2)||(b1&&b2)||u)):=by show _=_;rw [←H.out,Ex.letter,Zz,Wp,g1,g2,e1,e2,f3]
 clear H f3;cases a1 <;> cases a2 <;> cases b1 <;> cases b2 <;> cases u <;> (
  go_enter Tryz.func178,Tryz.ntmps178;go_wp2_with fail;go_ret;exact ⟨by rw [HB.out];rfl,rfl⟩)
theorem Z1 (s:List UInt8) (hs:s.length≤2000000) (w:World) {n:Nat} (H:Hid (Ex.nmL s=n)):Calls Tryz.prog 154 #[.string (bs s)] w fun e w'=>e=.returned (.int .i64 (n:Int))∧w=w':=by
 have hz:=zd s;have HZ:=hY hz;have hs2:(bs s).size≤2000000:=by omega
 have H0:Hid (0+Ck.nm1 (0==0) (s.drop 0)=n):=hY (by rw [Jw,Jq,←H.out,Ck.nm1_is];rfl);clear hz H;go_enter Tryz.func154,Tryz.ntmps154;go_wp2_with fail;go_loopw [3] (fun t3 wr=>∃ i:Nat,i≤(bs s).size∧t3=.int .i64 (i:Int)∧Hid (i+Ck.nm1 (i==0) (s.drop i)=n)∧w=wr) (fun t3 _=>(bs s).size - (intOf t3).toNat)
 case atStart=>exact ⟨0,by omega,rfl,H0,by trivial⟩
 case round =>
  clear H0;obtain ⟨i,hi,rfl,HR,rfl⟩:=hrel;have j0:(0:Int)≤(i:Int):=by omega
  rcases Jh i (bs s).size with hin | hin
  · have i0:decide ((i:Int)<((bs s).size:Int))=true:=dT (by omega);have i1:(i:Int)<((bs s).size:Int):=by omega
    have hil:i<s.length:=by rw [←HZ.out];exact hin
    have hR:=HR.out;rw [Js hil,show s[i]=(bs s)[i]'hin from rfl,Ck.nm1] at hR;obtain ⟨c,hc⟩:∃ c,(bs s)[i]'hin=c:=⟨_,rfl⟩
    rw [hc] at hR;have hby:c.toNat<256:=Jm _;obtain ⟨l,hl⟩:∃ l,Hid (Ex.letter c=l):=⟨_,hY rfl⟩
    obtain ⟨d,hd⟩:∃ d,Hid (Ck.digit c=d):=⟨_,hY rfl⟩
    obtain ⟨z,e4⟩:∃ z,(i==0)=z:=⟨_,rfl⟩
    have e5:decide ((0:Int)<(i:Int))=!z:=by
     rw [←e4];rcases Ju i with r | r
     · subst r;rfl
     · rw [show (i==0)=false by rw [Jr];omega];rw [Bool.not_false,Jj];omega
    have e6:decide (0<i)=!z:=by rw [←e5];rw [Jz,Jj,Jj];omega
    rw [hl.out,hd.out,e4] at hR;obtain ⟨q,hq⟩:∃ q,(l||(!z&&d))=q:=⟨_,rfl⟩
    rw [hq] at hR;have HQ:=hY hq;have HN:=hY hR;clear hR HR hq hil;go_upto_region 2 with fail;go_cut [23] (fun sq wx=>sq=.bool q∧w=wx)
    case first =>
     clear HN;cases l with
     | true =>go_wp2_with fail;refine (Zo c _ hl).mono ?_;rintro r w1 ⟨rfl,rfl⟩;go_wp2_with fail;go_meet;exact ⟨by rw [←HQ.out];rfl,by trivial⟩
     | false =>
      cases z with
      | true =>go_wp2_with fail;refine (Zo c _ hl).mono ?_;rintro r w1 ⟨rfl,rfl⟩;go_wp2_with fail;go_meet;exact ⟨by rw [←HQ.out];rfl,by trivial⟩
      | false =>go_wp2_with fail;refine (Zo c _ hl).mono ?_;rintro r w1 ⟨rfl,rfl⟩;go_wp2_with fail;refine (Vk c _ hd).mono ?_;rintro r w1 ⟨rfl,rfl⟩;go_wp2_with fail;go_meet;exact ⟨by rw [←HQ.out];rfl,by trivial⟩
    case rest =>
     obtain ⟨rfl,rfl⟩:=hcut;clear e4 e5 e6 HQ;have hN:=HN.out;cases q with
     | true =>
      have HF:Hid (i+1+Ck.nm1 (i+1==0) (s.drop (i+1))=n):=hY (by rw [←hN,if_pos rfl,show (i+1==0)=false from rfl];omega);clear hN HN;go_wp2_with fail;go_roundw
      case rel=>exact ⟨i+1,by omega,by go_num,HF,by trivial⟩
      case measure=>simp [intOf];omega
     | false =>have HF:Hid (i=n):=hY (by rw [←hN,if_neg (by decide)];rfl);clear hN HN;go_wp2_with fail;go_ret;exact ⟨by rw [HF.out];rfl,by trivial⟩
  · have i0:decide ((i:Int)<((bs s).size:Int))=false:=dF (by omega);have e0n:decide (i<(bs s).size)=false:=dF (by omega);have hil:s.length≤i:=by rw [←HZ.out];exact hin
    have HF:Hid (i=n):=hY (by rw [←HR.out,Jt hil];rfl);clear HR hil;go_wp2_with fail;go_ret;exact ⟨by rw [HF.out];rfl,by trivial⟩
theorem YG (s:List UInt8) (hs:s.length≤2000000) (w:World) {b:Bool} (H:Hid (Ck.varR s=b)):Calls Tryz.prog 125 #[.string (bs s)] w fun e w'=>e=.returned (.bool b)∧w=w':=by
 have hz:=zd s;have hs2:(bs s).size≤2000000:=by omega
 obtain ⟨n0,en⟩:∃ n0,(bs s).toList.isEmpty=n0:=⟨_,rfl⟩
 obtain ⟨n,HN⟩:∃ n,Hid (Ex.nmL s=n):=⟨_,hY rfl⟩
 obtain ⟨q,hq⟩:∃ q,((n:Int)==((bs s).size:Int))=q:=⟨_,rfl⟩
 obtain ⟨q',hq'⟩:∃ q',(n==(bs s).size)=q':=⟨_,rfl⟩
 have hqq:q'=q:=by rw [←hq,←hq',Jz,Jx,Jx];omega
 subst hqq;have HB:Hid (b=(!n0&&q')):=hY (by rw [←H.out,Ck.varR,HN.out,←en,zh,←hq',←hz];congr 1);clear H hz;cases n0 with
 | true =>go_enter Tryz.func125,Tryz.ntmps125;go_wp2_with fail;go_ret;exact ⟨by rw [HB.out];rfl,rfl⟩
 | false =>
  go_enter Tryz.func125,Tryz.ntmps125;go_wp2_with fail;refine (Z1 s hs _ HN).mono ?_;rintro r w1 ⟨rfl,rfl⟩;cases q' <;> (
   go_wp2_with fail;go_ret;exact ⟨by rw [HB.out];rfl,rfl⟩)
namespace Lx
def contC (x:Nat):Bool:=decide (128≤x)&&decide (x≤191)
def byteC (s:Bs) (i j:Nat):Nat:=((s.drop i).getD j 0).toNat
def restC (s:Bs) (i n k:Nat):Bool:=(List.range' k (n - k)).all fun j=>contC (byteC s i j)
theorem restC_step {s:Bs} {i n k:Nat} (h:k<n):restC s i n k=(contC (byteC s i k)&&restC s i n (k+1)):=by
 obtain ⟨m,hm⟩:∃ m,n - k=m+1:=⟨n - k - 1,by omega⟩
 rw [restC,restC,hm,show n - (k+1)=m by omega,List.range'_succ,List.all_cons]
theorem restC_end {s:Bs} {i n:Nat}:restC s i n n=true:=by rw [restC,Nat.sub_self];rfl
theorem byteC_eq {s:Bs} {i j:Nat} (h:i+j<(bs s).size):byteC s i j=((bs s)[i+j]'h).toNat:=by
 have h2:i+j<s.length:=by rw [←zd];exact h
 rw [byteC,List.getD_eq_getElem?_getD,List.getElem?_drop,Jk h2];rfl
def cN (c:Nat):Nat:=if 194≤c∧c≤223 then 2 else if 224≤c∧c≤239 then 3 else if 240≤c∧c≤244 then 4 else 0
def cLo (c:Nat):Nat:=if c=224 then 160 else if c=240 then 144 else 128
def cHi (c:Nat):Nat:=if c=237 then 159 else if c=244 then 143 else 191
theorem charC {s:Bs} {i:Nat} {c:Nat} (hc:byteC s i 0=c) (h:128≤c):
  charLen (s.drop i)=if 2≤cN c∧cN c≤s.length - i∧(cLo c≤byteC s i 1∧byteC s i 1≤cHi c)∧restC s i (cN c) 2=true then cN c else 0:=by
 have e:charLen (s.drop i)=charN (s.length - i) (byteC s i 0) (byteC s i 1) (byteC s i 2) (byteC s i 3):=by rw [charLen,Jn];rfl
 have r2:(restC s i 2 2=true)=True:=by rw [restC_end];simp
 have r3:(restC s i 3 2=true)=(128≤byteC s i 2∧byteC s i 2≤191):=by rw [restC_step (by omega),restC_end,Bool.and_true,contC,Jy,Jj,Jj]
 have r4:(restC s i 4 2=true)=((128≤byteC s i 2∧byteC s i 2≤191)∧(128≤byteC s i 3∧byteC s i 3≤191)):=by rw [restC_step (by omega),restC_step (by omega),restC_end,Bool.and_true];simp only [contC,Jy,Jj]
 rw [e,hc];generalize byteC s i 1=y1 at *;generalize byteC s i 2=y2 at *;generalize byteC s i 3=y3 at *;unfold charN;rw [if_neg (by omega)]
 by_cases hB:194≤c∧c≤223
 · have n2:cN c=2:=if_pos hB;have l2:cLo c=128:=by unfold cLo;rw [if_neg (by omega),if_neg (by omega)]
   have h2:cHi c=191:=by unfold cHi;rw [if_neg (by omega),if_neg (by omega)]
   rw [if_pos hB,n2,l2,h2];simp [r2]
 · by_cases h3:224≤c∧c≤239
   · have n2:cN c=3:=by unfold cN;rw [if_neg hB,if_pos h3]
     have l2:cLo c=if c=224 then 160 else 128:=by unfold cLo;rw [if_neg (show ¬ c=240 by omega)]
     have h2:cHi c=if c=237 then 159 else 191:=by unfold cHi;rw [if_neg (show ¬ c=244 by omega)]
     rw [if_neg hB,if_pos h3,n2,l2,h2];simp [r3]
   · by_cases h4:240≤c∧c≤244
     · have n2:cN c=4:=by unfold cN;rw [if_neg hB,if_neg h3,if_pos h4]
       have l2:cLo c=if c=240 then 144 else 128:=by unfold cLo;rw [if_neg (show ¬ c=224 by omega)]
       have h2:cHi c=if c=244 then 143 else 191:=by unfold cHi;rw [if_neg (show ¬ c=237 by omega)]
       rw [if_neg hB,if_neg h3,if_pos h4,n2,l2,h2];simp [r4]
     · have n2:cN c=0:=by unfold cN;rw [if_neg hB,if_neg h3,if_neg h4]
       rw [if_neg hB,if_neg h3,if_neg h4,n2,if_neg (by omega)]
theorem cN_le (c:Nat):cN c≤4:=by unfold cN;(repeat' split) <;> omega
theorem cLo_le (c:Nat):cLo c≤255:=by unfold cLo;(repeat' split) <;> omega
theorem cHi_le (c:Nat):cHi c≤255:=by unfold cHi;(repeat' split) <;> omega
theorem cN_ne (c:Nat):cN c=0∨2≤cN c:=by unfold cN;(repeat' split) <;> omega
end Lx
theorem zT (a lo hi:Int) (w:World) {b:Bool} (H:Hid ((decide (lo≤a)&&decide (a≤hi))=b)):Calls Tryz.prog 177 #[.int .u8 a,.int .u8 lo,.int .u8 hi] w fun e w'=>e=.returned (.bool b)∧w=w':=by
 obtain ⟨b1,e1⟩:∃ b1,decide (lo≤a)=b1:=⟨_,rfl⟩
 obtain ⟨b2,e2⟩:∃ b2,decide (a≤hi)=b2:=⟨_,rfl⟩
 have HB:Hid (b=(b1&&b2)):=hY (by rw [←H.out,e1,e2]);clear H;cases b1 <;> cases b2 <;> (
  go_enter Tryz.func177,Tryz.ntmps177;go_wp2_with fail;go_ret;exact ⟨by rw [HB.out];rfl,rfl⟩)
theorem Xg (s:List UInt8) (hs:s.length≤2000000) (i:Nat) (hi:i<(bs s).size) (w:World) {v:Nat} (H:Hid (Lx.charLen (s.drop i)=v)):Calls Tryz.prog 153 #[.string (bs s),.int .i64 (i:Int)] w fun e w'=>e=.returned (.int .i64 (v:Int))∧w=w':=by
 have hz:=zd s;have HZ:=hY hz;have hs2:(bs s).size≤2000000:=by omega
 have j0:(0:Int)≤(i:Int):=by omega
 have j1:(i:Int)<((bs s).size:Int):=by omega
 obtain ⟨c,hcc⟩:∃ c,(bs s)[i]'hi=c:=⟨_,rfl⟩
 have hb0:Lx.byteC s i 0=c.toNat:=by rw [Lx.byteC_eq (j:=0) hi];exact congrArg UInt8.toNat hcc
 have HB0:=hY hb0;have hby:c.toNat<256:=Jm _;clear hz hb0;rcases Jh c.toNat 128 with hA | hA
 · have t1:decide ((c.toNat:Int)<128)=true:=dT (by omega);have t2:(c.toNat:Int)<128:=by omega
   have HV:Hid (v=1):=hY (by rw [←H.out,Lx.charLen,Jn];unfold Lx.charN;rw [if_pos (by have:=HB0.out;unfold Lx.byteC at this;omega)]);go_enter Tryz.func153,Tryz.ntmps153;go_wp2_with fail;go_ret;exact ⟨by rw [HV.out];rfl,rfl⟩
 have HCC:=hY (Lx.charC (s:=s) HB0.out hA);rw [H.out] at HCC;have t1:decide ((c.toNat:Int)<128)=false:=dF (by omega);have t2:¬ (c.toNat:Int)<128:=by omega
 obtain ⟨n,hn⟩:∃ n,Hid (Lx.cN c.toNat=n):=⟨_,hY rfl⟩
 obtain ⟨lo,hlo⟩:∃ n,Hid (Lx.cLo c.toNat=n):=⟨_,hY rfl⟩
 obtain ⟨up,hup⟩:∃ n,Hid (Lx.cHi c.toNat=n):=⟨_,hY rfl⟩
 rw [hn.out,hlo.out,hup.out] at HCC;have hn4:n≤4:=by rw [←hn.out];exact Lx.cN_le _
 have hl4:lo≤255:=by rw [←hlo.out];exact Lx.cLo_le _
 have hu4:up≤255:=by rw [←hup.out];exact Lx.cHi_le _
 have hnn:n=0∨2≤n:=by rw [←hn.out];exact Lx.cN_ne _
 have HNN:=hY hnn;clear hnn H HB0;go_enter Tryz.func153,Tryz.ntmps153;go_upto_block 0 with fail;go_cut [6] from 13 to 24 (fun s6 wx=>s6=.int .i64 (n:Int)∧w=wx)
 case first =>
  clear HCC hlo hup;obtain ⟨b1,h1⟩:∃ b,Hid ((decide ((194:Int)≤(c.toNat:Int))&&decide ((c.toNat:Int)≤223))=b):=⟨_,hY rfl⟩
  obtain ⟨b2,h2⟩:∃ b,Hid ((decide ((224:Int)≤(c.toNat:Int))&&decide ((c.toNat:Int)≤239))=b):=⟨_,hY rfl⟩
  obtain ⟨b3,h3⟩:∃ b,Hid ((decide ((240:Int)≤(c.toNat:Int))&&decide ((c.toNat:Int)≤244))=b):=⟨_,hY rfl⟩
  have HNC:Hid (n=if b1 then 2 else if b2 then 3 else if b3 then 4 else 0):=hY (by
   rw [←hn.out,←h1.out,←h2.out,←h3.out,Lx.cN];simp only [Jy,Jj]
   norm_cast)
  clear hn;cases b1 with
  | true =>go_wp2_with fail;refine (zT _ _ _ _ h1).mono ?_;rintro e w1 ⟨rfl,rfl⟩;go_wp2_with fail;go_meet;exact ⟨by rw [HNC.out];rfl,by trivial⟩
  | false =>
   cases b2 with
   | true =>go_wp2_with fail;refine (zT _ _ _ _ h1).mono ?_;rintro e w1 ⟨rfl,rfl⟩;go_wp2_with fail;refine (zT _ _ _ _ h2).mono ?_;rintro e w1 ⟨rfl,rfl⟩;go_wp2_with fail;go_meet;exact ⟨by rw [HNC.out];rfl,by trivial⟩
   | false =>
    cases b3 <;> (
     go_wp2_with fail;refine (zT _ _ _ _ h1).mono ?_;rintro e w1 ⟨rfl,rfl⟩;go_wp2_with fail;refine (zT _ _ _ _ h2).mono ?_;rintro e w1 ⟨rfl,rfl⟩;go_wp2_with fail;refine (zT _ _ _ _ h3).mono ?_;rintro e w1 ⟨rfl,rfl⟩;go_wp2_with fail;go_meet;exact ⟨by rw [HNC.out];rfl,by trivial⟩)
 case rest =>
  obtain ⟨rfl,rfl⟩:=hcut;clear t1 t2 hn;go_upto_block 1 with fail;go_cut [7,8] from 26 to 33 (fun s7 s8 wx=>s7=.int .u8 (lo:Int)∧s8=.int .u8 (up:Int)∧w=wx)
  case first =>
   clear HCC
   by_cases g224:c.toNat=224
   · have e224:((c.toNat:Int)==224)=true:=bT (by omega);have e237:((c.toNat:Int)==237)=false:=bF (by omega);have e240:((c.toNat:Int)==240)=false:=bF (by omega);have e244:((c.toNat:Int)==244)=false:=bF (by omega);have q1:lo=160:=by rw [←hlo.out,g224];rfl
     have q2:up=191:=by rw [←hup.out,g224];rfl
     subst q1 q2;go_wp2_with fail;go_meet;exact ⟨rfl,rfl,by trivial⟩
   by_cases g237:c.toNat=237
   · have e224:((c.toNat:Int)==224)=false:=bF (by omega);have e237:((c.toNat:Int)==237)=true:=bT (by omega);have e240:((c.toNat:Int)==240)=false:=bF (by omega);have e244:((c.toNat:Int)==244)=false:=bF (by omega);have q1:lo=128:=by rw [←hlo.out,g237];rfl
     have q2:up=159:=by rw [←hup.out,g237];rfl
     subst q1 q2;go_wp2_with fail;go_meet;exact ⟨rfl,rfl,by trivial⟩
   by_cases g240:c.toNat=240
   · have e224:((c.toNat:Int)==224)=false:=bF (by omega);have e237:((c.toNat:Int)==237)=false:=bF (by omega);have e240:((c.toNat:Int)==240)=true:=bT (by omega);have e244:((c.toNat:Int)==244)=false:=bF (by omega);have q1:lo=144:=by rw [←hlo.out,g240];rfl
     have q2:up=191:=by rw [←hup.out,g240];rfl
     subst q1 q2;go_wp2_with fail;go_meet;exact ⟨rfl,rfl,by trivial⟩
   by_cases g244:c.toNat=244
   · have e224:((c.toNat:Int)==224)=false:=bF (by omega);have e237:((c.toNat:Int)==237)=false:=bF (by omega);have e240:((c.toNat:Int)==240)=false:=bF (by omega);have e244:((c.toNat:Int)==244)=true:=bT (by omega);have q1:lo=128:=by rw [←hlo.out,g244];rfl
     have q2:up=143:=by rw [←hup.out,g244];rfl
     subst q1 q2;go_wp2_with fail;go_meet;exact ⟨rfl,rfl,by trivial⟩
   have e224:((c.toNat:Int)==224)=false:=bF (by omega);have e237:((c.toNat:Int)==237)=false:=bF (by omega);have e240:((c.toNat:Int)==240)=false:=bF (by omega);have e244:((c.toNat:Int)==244)=false:=bF (by omega);have q1:lo=128:=by rw [←hlo.out,Lx.cLo,if_neg g224,if_neg g240]
   have q2:up=191:=by rw [←hup.out,Lx.cHi,if_neg g237,if_neg g244]
   subst q1 q2;go_wp2_with fail;go_meet;exact ⟨rfl,rfl,by trivial⟩
  case rest =>
   obtain ⟨rfl,rfl,rfl⟩:=hcut;clear hlo hup;have hnn:=HNN.out;rcases Ju n with hn0 | hn0
   · have HV:Hid (v=0):=hY (by rw [HCC.out,if_neg (by omega)]);subst hn0;clear HCC hnn;go_wp2_with fail;go_ret;exact ⟨by rw [HV.out];rfl,by trivial⟩
   have hn2:2≤n:=by omega
   have n0:((n:Int)==0)=false:=bF (by omega);have n1:¬ (n:Int)=0:=by omega
   have n3:(n==0)=false:=bF (by omega);clear hnn hn0;rcases Jh (bs s).size (i+n) with hsh | hsh
   · have j2:decide (((bs s).size:Int)<(i:Int)+(n:Int))=true:=dT (by omega);have j3:((bs s).size:Int)<(i:Int)+(n:Int):=by omega
     have HV:Hid (v=0):=hY (by rw [HCC.out,if_neg (fun h=>by have:=h.2.1;have:=HZ.out;omega)]);clear HCC;go_wp2_with fail;go_ret;exact ⟨by rw [HV.out];rfl,by trivial⟩
   have j2:decide (((bs s).size:Int)<(i:Int)+(n:Int))=false:=dF (by omega);have j3:¬ ((bs s).size:Int)<(i:Int)+(n:Int):=by omega
   have hx1:i+1<(bs s).size:=by omega
   have j4:(i:Int)+1<((bs s).size:Int):=by omega
   have j5:(0:Int)≤(i:Int)+1:=by omega
   obtain ⟨x,hx⟩:∃ x,(bs s)[i+1]'hx1=x:=⟨_,rfl⟩
   have hbx:x.toNat<256:=Jm _;obtain ⟨b,hb⟩:∃ b,Hid ((decide ((lo:Int)≤(x.toNat:Int))&&decide ((x.toNat:Int)≤(up:Int)))=b):=⟨_,hY rfl⟩
   have hcx:=HCC.out;rw [Lx.byteC_eq hx1,hx] at hcx;have HBX:Hid ((lo≤x.toNat∧x.toNat≤up)↔b=true):=hY (by rw [←hb.out,Jy,Jj,Jj];omega);have HCX:=hY hcx;clear hcx HCC;cases b with
   | false =>have HV:Hid (v=0):=hY (by rw [HCX.out,if_neg (fun h=>by have:=HBX.out.1 h.2.2.1;cases this)]);clear HCX;go_wp2_with fail;refine (zT _ _ _ _ hb).mono ?_;rintro e w1 ⟨rfl,rfl⟩;go_wp2_with fail;go_ret;exact ⟨by rw [HV.out];rfl,by trivial⟩
   | true =>
    have HV:Hid (v=if Lx.restC s i n 2=true then n else 0):=hY (by
     rw [HCX.out]
     by_cases hr:Lx.restC s i n 2=true
     · rw [if_pos hr,if_pos ⟨hn2,by have:=HZ.out;omega,HBX.out.2 rfl,hr⟩]
     · rw [if_neg hr,if_neg (fun h=>hr h.2.2.2)])
    clear HCX HBX;go_wp2_with fail;refine (zT _ _ _ _ hb).mono ?_;rintro e w1 ⟨rfl,rfl⟩;clear hb hx hbx j4 j5;go_wp2_with fail;go_loopw [9] (fun t9 wr=>∃ k:Nat,2≤k∧k≤n∧t9=.int .i64 (k:Int)∧Hid (v=if Lx.restC s i n k=true then n else 0)∧w=wr) (fun t9 _=>n - (intOf t9).toNat)
    case atStart=>exact ⟨2,by omega,by omega,rfl,HV,by trivial⟩
    case round =>
     clear HV;obtain ⟨k,hk2,hkn,rfl,HR,rfl⟩:=hrel;rcases Jh k n with hkl | hkl
     · have l0:decide ((k:Int)<(n:Int))=true:=dT (by omega);have l9:(k:Int)<(n:Int):=by omega
       have l1:(0:Int)≤(i:Int)+(k:Int):=by omega
       have hik:i+k<(bs s).size:=by omega
       have l2:(i:Int)+(k:Int)<((bs s).size:Int):=by omega
       have hR:=HR.out;rw [Lx.restC_step hkl,Lx.byteC_eq hik] at hR;obtain ⟨y,hy⟩:∃ y,(bs s)[i+k]'hik=y:=⟨_,rfl⟩
       rw [hy] at hR;have hbyy:y.toNat<256:=Jm _;obtain ⟨d,hd⟩:∃ b,Hid ((decide ((128:Int)≤(y.toNat:Int))&&decide ((y.toNat:Int)≤191))=b):=⟨_,hY rfl⟩
       have hct:Lx.contC y.toNat=d:=by rw [←hd.out,Lx.contC,Jz,Jy,Jy,Jj,Jj,Jj,Jj];omega
       rw [hct] at hR;have HR2:=hY hR;clear hR HR hct;cases d with
       | false =>have HV:Hid (v=0):=hY (by rw [HR2.out];rfl);clear HR2;go_wp2_with fail;refine (zT _ _ _ _ hd).mono ?_;rintro e w1 ⟨rfl,rfl⟩;go_wp2_with fail;go_ret;exact ⟨by rw [HV.out];rfl,by trivial⟩
       | true =>
        have HV:Hid (v=if Lx.restC s i n (k+1)=true then n else 0):=hY (by rw [HR2.out];rfl);clear HR2;go_wp2_with fail;refine (zT _ _ _ _ hd).mono ?_;rintro e w1 ⟨rfl,rfl⟩;go_wp2_with fail;go_roundw
        case rel=>exact ⟨k+1,by omega,by omega,by go_num,HV,by trivial⟩
        case measure=>simp [intOf];omega
     · have l0:decide ((k:Int)<(n:Int))=false:=dF (by omega);have l0n:decide (k<n)=false:=dF (by omega);have HV:Hid (v=n):=hY (by rw [HR.out,show k=n by omega,Lx.restC_end];rfl);clear HR;go_wp2_with fail;go_ret;exact ⟨by rw [HV.out];rfl,by trivial⟩
namespace Lx
theorem charLen_le4 {s:Bs} {i:Nat} (h:i<s.length):charLen (s.drop i)≤s.length - i:=by have:=jf (s.drop i).length ((s.drop i).getD 0 0).toNat ((s.drop i).getD 1 0).toNat ((s.drop i).getD 2 0).toNat ((s.drop i).getD 3 0).toNat (by rw [Jn];omega);exact Jg this (by rw [Jn];omega)
end Lx
theorem Ws (s:List UInt8) (hs:s.length≤2000000) (w:World) {b:Bool} (H:Hid (Ck.badT s=b)):Calls Tryz.prog 120 #[.string (bs s)] w fun e w'=>(∃ n:Int,e=.returned (.int .i64 n)∧decide (0≤n)=b∧-1≤n∧n≤2000000)∧w=w':=by
 have hz:=zd s;have HZ:=hY hz;have hs2:(bs s).size≤2000000:=by omega
 have H0:Hid ((Lx.wrongL (s.drop 0) 0 0 1 0).isSome=b):=hY (by rw [Jw];exact H.out);clear hz H;go_enter Tryz.func120,Tryz.ntmps120;go_wp2_with fail;go_loopw [3,4] (fun t3 _ wr=>∃ i l f:Nat,i≤(bs s).size∧t3=.int .i64 (i:Int)∧Hid ((Lx.wrongL (s.drop i) 0 i l f).isSome=b)∧w=wr) (fun t3 _ _=>(bs s).size - (intOf t3).toNat)
 case atStart=>exact ⟨0,1,0,by omega,rfl,H0,by trivial⟩
 case round =>
  clear H0;obtain ⟨i,l,f,hi,rfl,HR,rfl⟩:=hrel;have j0:(0:Int)≤(i:Int):=by omega
  rcases Jh i (bs s).size with hin | hin
  · have i0:decide ((i:Int)<((bs s).size:Int))=true:=dT (by omega);have i1:(i:Int)<((bs s).size:Int):=by omega
    have hil:i<s.length:=by rw [←HZ.out];exact hin
    obtain ⟨n,hn⟩:∃ n,Hid (Lx.charLen (s.drop i)=n):=⟨_,hY rfl⟩
    have hnle:=Lx.charLen_le4 hil;rw [hn.out,←HZ.out] at hnle;rcases Ju n with h0 | h0
    · have hR:=HR.out;rw [Lx.wrong_at hil (hn.out.trans h0)] at hR;have HB:Hid (b=true):=hY (by rw [←hR];rfl);subst h0;clear hR HR hil hnle;go_wp2_with fail;refine (Xg s hs i hin _ hn).mono ?_;rintro e w1 ⟨rfl,rfl⟩;go_wp2_with fail;go_ret;exact ⟨⟨(i:Int),rfl,by rw [HB.out,Jj];omega,by omega,by omega⟩,by trivial⟩
    · obtain ⟨m,hm⟩:∃ m,n=m+1:=⟨n - 1,by omega⟩
      have hR:=HR.out;rw [Lx.wrong_go hil (hn.out.trans hm),←hm] at hR;obtain ⟨l2,hl2⟩:∃ x,(if s[i]=10 then l+1 else l)=x:=⟨_,rfl⟩
      obtain ⟨f2,hf2⟩:∃ x,(if s[i]=10 then i+1 else f)=x:=⟨_,rfl⟩
      rw [hl2,hf2] at hR;have HN:=hY hR;have n0:((n:Int)==0)=false:=bF (by omega);have n1:(n==0)=false:=bF (by omega);clear hR HR hil hm hl2 hf2;go_wp2_with fail;refine (Xg s hs i hin _ hn).mono ?_;rintro e w1 ⟨rfl,rfl⟩;go_wp2_with fail;go_roundw
      case rel=>exact ⟨i+n,l2,f2,by omega,by go_num,HN,by trivial⟩
      case measure=>simp [intOf];omega
  · have i0:decide ((i:Int)<((bs s).size:Int))=false:=dF (by omega);have e0n:decide (i<(bs s).size)=false:=dF (by omega);have hil:s.length≤i:=by rw [←HZ.out];exact hin
    have hR:=HR.out;rw [Lx.wrong_end hil] at hR;have HB:Hid (b=false):=hY (by rw [←hR];rfl);clear HR hR hil;go_wp2_with fail;go_ret;exact ⟨⟨-1,rfl,by rw [HB.out];rfl,by omega,by omega⟩,by trivial⟩
theorem YK (v:Value) (l:List (List UInt8)) (w:World) (hv:SlA w v l.length (sc l)) (hl:∀ t∈l,t.length≤2000000) (hn:l.length≤10000000) {b:Bool} (H:Hid (l.any Ck.badT=b)):Calls Tryz.prog 81 #[v] w fun e w'=>e=.returned (.bool b)∧w=w':=by
 obtain ⟨A,k,rfl⟩:=hv.form;have HS:=hY hv;have HL:=hY hl;have H0:Hid ((l.drop 0).any Ck.badT=b):=hY (by rw [Jw];exact H.out);clear hv hl H;go_enter Tryz.func81,Tryz.ntmps81;go_wp2_with fail;go_loopw [3] (fun t3 wr=>∃ i:Nat,i≤l.length∧t3=.int .i64 (i:Int)∧Hid ((l.drop i).any Ck.badT=b)∧w=wr) (fun t3 _=>l.length - (intOf t3).toNat)
 case atStart=>exact ⟨0,by omega,rfl,H0,by trivial⟩
 case round =>
  clear H0;obtain ⟨i,hi,rfl,HR,rfl⟩:=hrel;have j0:(0:Int)≤(i:Int):=by omega
  rcases Jh i l.length with hin | hin
  · have i0:decide ((i:Int)<(l.length:Int))=true:=dT (by omega);have i1:(i:Int)<(l.length:Int):=by omega
    have hR:=HR.out;rw [Js hin,List.any_cons] at hR;obtain ⟨t,ht⟩:∃ t,l[i]=t:=⟨_,rfl⟩
    have htl:t.length≤2000000:=by rw [←ht];exact HL.out _ (Jl hin)
    obtain ⟨g,o,c,hA,hci⟩:∃ g o c,(.slice A l.length k:Value)=.slice (some ⟨g,o,none⟩) l.length c∧w.cell? ⟨g,o+i,none⟩=some (.string (bs t)):=by
     rcases HS.out with ⟨q1,q2,q3⟩ | ⟨g,o,c,q1,q2⟩
     · omega
     · exact ⟨g,o,c,q1,q2 i _ (by rw [←ht];simp [sc,hin])⟩
    injection hA with hA _ hk;subst hA hk;obtain ⟨u,hu⟩:∃ u,Hid (Ck.badT t=u):=⟨_,hY rfl⟩
    rw [ht,hu.out] at hR;have HR2:=hY hR;clear hR ht HR;go_wp2_with fail;refine (Ws t htl w hu).mono ?_;rintro e w5 ⟨⟨n,rfl,hn0,hn1,hn2⟩,rfl⟩;cases u with
    | true =>have HF:Hid (b=true):=hY (by rw [←HR2.out];rfl);have hn3:(0:Int)≤n:=of_decide_eq_true hn0;go_wp2_with fail;go_ret;exact ⟨by rw [HF.out];rfl,by trivial⟩
    | false =>
     have HR3:Hid ((l.drop (i+1)).any Ck.badT=b):=hY (by rw [←HR2.out];rfl);have hn3:¬ (0:Int)≤n:=of_decide_eq_false hn0;have hn4:decide ((0:Int)≤n)=false:=hn0;go_wp2_with fail;go_roundw
     case rel=>exact ⟨i+1,by omega,by go_num,HR3,by trivial⟩
     case measure=>simp [intOf];omega
  · have i0:decide ((i:Int)<(l.length:Int))=false:=dF (by omega);have e0n:decide (i<l.length)=false:=dF (by omega);have HF:Hid (b=false):=hY (by rw [←HR.out,Jt hin];rfl);go_wp2_with fail;go_ret;exact ⟨by rw [HF.out];rfl,by trivial⟩
theorem QU (op:Int) (w:World):Calls Tryz.prog 121 #[.int .i64 op] w fun e w'=>e=.returned (.tuple #[.int .i64 (Ck.least op:Int),.int .i64 (Ck.most op:Int)])∧w=w':=by
 by_cases h1:op=1
 · subst h1;go_enter Tryz.func121,Tryz.ntmps121;go_wp2_with fail;go_ret2;exact ⟨rfl,rfl⟩
 by_cases h4:op=4
 · subst h4;go_enter Tryz.func121,Tryz.ntmps121;go_wp2_with fail;go_ret2;exact ⟨rfl,rfl⟩
 by_cases h11:op=11
 · subst h11;go_enter Tryz.func121,Tryz.ntmps121;go_wp2_with fail;go_ret2;exact ⟨rfl,rfl⟩
 by_cases h9:op=9
 · subst h9;go_enter Tryz.func121,Tryz.ntmps121;go_wp2_with fail;go_ret2;exact ⟨rfl,rfl⟩
 by_cases h5:op=5
 · subst h5;go_enter Tryz.func121,Tryz.ntmps121;go_wp2_with fail;go_ret2;exact ⟨rfl,rfl⟩
 by_cases h6:op=6
 · subst h6;go_enter Tryz.func121,Tryz.ntmps121;go_wp2_with fail;go_ret2;exact ⟨rfl,rfl⟩
 by_cases h10:op=10
 · subst h10;go_enter Tryz.func121,Tryz.ntmps121;go_wp2_with fail;go_ret2;exact ⟨rfl,rfl⟩
 by_cases h13:op=13
 · subst h13;go_enter Tryz.func121,Tryz.ntmps121;go_wp2_with fail;go_ret2;exact ⟨rfl,rfl⟩
 by_cases h14:op=14
 · subst h14;go_enter Tryz.func121,Tryz.ntmps121;go_wp2_with fail;go_ret2;exact ⟨rfl,rfl⟩
 have e1:(op==1)=false:=by rw [Jr];exact h1
 have e4:(op==4)=false:=by rw [Jr];exact h4
 have e11:(op==11)=false:=by rw [Jr];exact h11
 have e9:(op==9)=false:=by rw [Jr];exact h9
 have e5:(op==5)=false:=by rw [Jr];exact h5
 have e6:(op==6)=false:=by rw [Jr];exact h6
 have e10:(op==10)=false:=by rw [Jr];exact h10
 have e13:(op==13)=false:=by rw [Jr];exact h13
 have e14:(op==14)=false:=by rw [Jr];exact h14
 have HL:Hid (Ck.least op=1):=hY (by unfold Ck.least;rw [if_neg (by omega),if_neg (by omega)]);have HM:Hid (Ck.most op=64):=hY (by unfold Ck.most;rw [if_neg (by omega),if_neg (by omega)]);go_enter Tryz.func121,Tryz.ntmps121;go_wp2_with fail;go_ret2;exact ⟨by rw [HL.out,HM.out];rfl,rfl⟩
end Go.Proofs.YtdaejggcjjdhkaaGreatDoor
