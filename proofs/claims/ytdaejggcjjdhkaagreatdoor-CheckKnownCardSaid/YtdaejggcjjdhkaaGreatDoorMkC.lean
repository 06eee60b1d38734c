/- check.Ref, of and their like, walked. -/
import Derived.Test.YtdaejggcjjdhkaaGreatDoorProg
import Derived.Ground.NamesProg
import Derived.Test.YtdaejggcjjdhkaaGreatDoorMkB
import Derived.WalkKit
import Derived.IntWalk
import Derived.Deep.DeepCutAuto
import Derived.Test.YtdaejggcjjdhkaaGreatDoorMkA
import Derived.Shelf.Abstract
import Derived.Shelf.RegionOpen
import Derived.Shelf.Strings.SlTrimAscii
import Derived.Shelf.Strings.Split
import Derived.Shelf.Strings.Cut
import Derived.Shelf.Strings.Prefix
import Derived.Shelf.Strings.Search1
import Derived.Shelf.Small.Wraps
import Derived.Lib.Hide
import Derived.Deep.QuietTactic
import Derived.BigQuiet
set_option maxHeartbeats 1000000
set_option maxRecDepth 100000
namespace Go.Proofs.YtdaejggcjjdhkaaGreatDoor
open Go Go.RowKit
theorem Zz (c:UInt8):Ck.small c=(decide ((97:Int)≤(c.toNat:Int))&&decide ((c.toNat:Int)≤122)):=by unfold Ck.small;rw [Jz];simp only [Jy,Jj];omega
theorem Wp (c:UInt8):Ck.big c=(decide ((65:Int)≤(c.toNat:Int))&&decide ((c.toNat:Int)≤90)):=by unfold Ck.big;rw [Jz];simp only [Jy,Jj];omega
theorem ZI (c:UInt8):Ck.digit c=(decide ((48:Int)≤(c.toNat:Int))&&decide ((c.toNat:Int)≤57)):=by unfold Ck.digit;rw [Jz];simp only [Jy,Jj];omega
theorem zW (c:UInt8) (w:World) {b:Bool} (H:Hid (Ck.small c=b)):Calls Tryz.prog 129 #[.int .u8 (c.toNat:Int)] w fun e w'=>e=.returned (.bool b)∧w=w':=by
 obtain ⟨b1,e1⟩:∃ b1,decide ((97:Int)≤(c.toNat:Int))=b1:=⟨_,rfl⟩
 obtain ⟨b2,e2⟩:∃ b2,decide ((c.toNat:Int)≤122)=b2:=⟨_,rfl⟩
 have HB:Hid (b=(b1&&b2)):=by show _=_;rw [←H.out,Zz,e1,e2]
 clear H;cases b1 <;> cases b2 <;> (
  go_enter Tryz.func129,Tryz.ntmps129;go_wp2_with fail;go_ret;exact ⟨by rw [HB.out];rfl,rfl⟩)
theorem zL (c:UInt8) (w:World) {b:Bool} (H:Hid (Ck.digit c=b)):Calls Tryz.prog 130 #[.int .u8 (c.toNat:Int)] w fun e w'=>e=.returned (.bool b)∧w=w':=by
 obtain ⟨b1,e1⟩:∃ b1,decide ((48:Int)≤(c.toNat:Int))=b1:=⟨_,rfl⟩
 obtain ⟨b2,e2⟩:∃ b2,decide ((c.toNat:Int)≤57)=b2:=⟨_,rfl⟩
 have HB:Hid (b=(b1&&b2)):=by show _=_;rw [←H.out,ZI,e1,e2]
 clear H;cases b1 <;> cases b2 <;> (
  go_enter Tryz.func130,Tryz.ntmps130;go_wp2_with fail;go_ret;exact ⟨by rw [HB.out];rfl,rfl⟩)
theorem zX (c:UInt8) (w:World) {b:Bool} (H:Hid ((Ck.small c||Ck.big c)=b)):Calls Tryz.prog 143 #[.int .u8 (c.toNat:Int)] w fun e w'=>e=.returned (.bool b)∧w=w':=by
 obtain ⟨s,hs⟩:∃ s,Hid (Ck.small c=s):=⟨_,hY rfl⟩
 obtain ⟨b1,e1⟩:∃ b1,decide ((65:Int)≤(c.toNat:Int))=b1:=⟨_,rfl⟩
 obtain ⟨b2,e2⟩:∃ b2,decide ((c.toNat:Int)≤90)=b2:=⟨_,rfl⟩
 have HB:Hid (b=(s||(b1&&b2))):=by show _=_;rw [←H.out,hs.out,Wp,e1,e2]
 clear H;cases s <;> cases b1 <;> cases b2 <;> (
  go_enter Tryz.func143,Tryz.ntmps143;go_wp2_with fail;refine (zW c _ hs).mono ?_;rintro e w1 ⟨rfl,rfl⟩;go_wp2_with fail;go_ret;exact ⟨by rw [HB.out];rfl,rfl⟩)
namespace Ck
def tg (z:Bool) (c:UInt8):Bool:=small c||big c||digit c||c==95||(!z&&(c==46||c==45))
def goT:Nat→List UInt8→Bool
 | _,[]=>true
 | i,c::r=>tg (i==0) c&&goT (i+1) r
theorem Uw:∀ (r:List UInt8) (i:Nat),goT (i+1) r=r.all fun c=>small c||big c||digit c||c==95||c==46||c==45
 | [],_=>rfl
 | c::r,i=>by have hz:(i+1==0)=false:=rfl;rw [goT,Uw r (i+1),List.all_cons,hz];unfold tg;cases small c <;> cases big c <;> cases digit c <;> cases (c==95) <;> cases (c==46) <;> cases (c==45) <;> rfl
theorem tag_go (s:List UInt8):tagR s=(goT 0 s&&!s.isEmpty):=by
 cases s with
 | nil=>rfl
 | cons c r =>rw [goT,Uw];show ((small c||big c||digit c||c==95)&&_)=_;unfold tg;cases small c <;> cases big c <;> cases digit c <;> cases (c==95) <;> simp
end Ck
theorem zO (c k:UInt8):((c.toNat:Int) != (k.toNat:Int))=!(c==k):=by
 rw [bne];congr 1;rw [Jz,Jx,Jx];constructor
 · intro h;exact UInt8.toNat_inj.1 (by omega)
 · rintro rfl;rfl
theorem zh (l:List UInt8):(bs l).toList=l:=by rw [ByteArray.toList_eq];rfl
theorem UO (s:List UInt8) (hs:s.length≤2000000) (w:World) {b:Bool} (H:Hid (Ck.tagR s=b)):Calls Tryz.prog 106 #[.string (bs s)] w fun e w'=>e=.returned (.bool b)∧w=w':=by
 have hz:=zd s;have HZ:=hY hz;have hs2:(bs s).size≤2000000:=by omega
 obtain ⟨n0,en⟩:∃ n0,(bs s).toList.isEmpty=n0:=⟨_,rfl⟩
 have H0:Hid ((Ck.goT 0 (s.drop 0)&&!n0)=b):=by show _=_;rw [Jw,←en,zh,←H.out,Ck.tag_go]
 clear hz H;go_enter Tryz.func106,Tryz.ntmps106;go_wp2_with fail;go_loopw [3] (fun t3 wr=>∃ i:Nat,i≤(bs s).size∧t3=.int .i64 (i:Int)∧Hid ((Ck.goT i (s.drop i)&&!n0)=b)∧w=wr) (fun t3 _=>(bs s).size - (intOf t3).toNat)
 case atStart=>exact ⟨0,by omega,rfl,H0,by trivial⟩
 case round =>
  clear H0;obtain ⟨i,hi,rfl,HR,rfl⟩:=hrel;have j0:(0:Int)≤(i:Int):=by omega
  rcases Jh i (bs s).size with hin | hin
  · have i0:decide ((i:Int)<((bs s).size:Int))=true:=dT (by omega);have i1:(i:Int)<((bs s).size:Int):=by omega
    have hil:i<s.length:=by rw [←HZ.out];exact hin
    have hR:=HR.out;rw [Js hil,show s[i]=(bs s)[i]'hin from rfl,Ck.goT] at hR;obtain ⟨c,hc⟩:∃ c,(bs s)[i]'hin=c:=⟨_,rfl⟩
    rw [hc] at hR;have hby:c.toNat<256:=Jm _;obtain ⟨l,hl⟩:∃ l,Hid ((Ck.small c||Ck.big c)=l):=⟨_,hY rfl⟩
    obtain ⟨d,hd⟩:∃ d,Hid (Ck.digit c=d):=⟨_,hY rfl⟩
    obtain ⟨x,e1⟩:∃ x,((c.toNat:Int) != 95)=x:=⟨_,rfl⟩
    obtain ⟨m,e2⟩:∃ m,((c.toNat:Int) != 46)=m:=⟨_,rfl⟩
    obtain ⟨n,e3⟩:∃ n,((c.toNat:Int) != 45)=n:=⟨_,rfl⟩
    obtain ⟨z,e4⟩:∃ z,(i==0)=z:=⟨_,rfl⟩
    have e5:((i:Int)==0)=z:=by rw [←e4,Jz,Jx,Jx];omega
    obtain ⟨q,hq⟩:∃ q,(!l&&!d&&x&&(z||(m&&n)))=q:=⟨_,rfl⟩
    have hT:Ck.tg (i==0) c=!q:=by
     have f1:(c==95)=!x:=by rw [←e1,show (95:Int)=(((95:UInt8).toNat:Nat):Int) from rfl,zO,Bool.not_not]
     have f2:(c==46)=!m:=by rw [←e2,show (46:Int)=(((46:UInt8).toNat:Nat):Int) from rfl,zO,Bool.not_not]
     have f3:(c==45)=!n:=by rw [←e3,show (45:Int)=(((45:UInt8).toNat:Nat):Int) from rfl,zO,Bool.not_not]
     unfold Ck.tg;rw [hl.out,hd.out,f1,f2,f3,e4,←hq];cases l <;> cases d <;> cases x <;> cases m <;> cases n <;> cases z <;> rfl
    rw [hT] at hR;have HQ:=hY hq;have HN:=hY hR;clear hR HR hq hil hT;go_upto_region 4 with fail;go_cut [43] (fun s43 wx=>s43=.bool q∧w=wx)
    case first =>
     clear HN;cases l with
     | true =>go_wp2_with fail;refine (zX c _ hl).mono ?_;rintro r w1 ⟨rfl,rfl⟩;go_wp2_with fail;go_meet;exact ⟨by rw [←HQ.out];rfl,by trivial⟩
     | false =>
      cases d with
      | true =>go_wp2_with fail;refine (zX c _ hl).mono ?_;rintro r w1 ⟨rfl,rfl⟩;go_wp2_with fail;refine (zL c _ hd).mono ?_;rintro r w1 ⟨rfl,rfl⟩;go_wp2_with fail;go_meet;exact ⟨by rw [←HQ.out];rfl,by trivial⟩
      | false =>
       cases x <;> cases z <;> cases m <;> cases n <;> (
        go_wp2_with fail;refine (zX c _ hl).mono ?_;rintro r w1 ⟨rfl,rfl⟩;go_wp2_with fail;refine (zL c _ hd).mono ?_;rintro r w1 ⟨rfl,rfl⟩;go_wp2_with fail;go_meet;exact ⟨by rw [←HQ.out];rfl,by trivial⟩)
    case rest =>
     obtain ⟨rfl,rfl⟩:=hcut;clear e1 e2 e3 e4 e5 HQ hl hd;have hN:=HN.out;cases q with
     | true =>
      have HF:Hid (b=false):=by show _=_;rw [←hN];rfl
      clear hN HN;go_wp2_with fail;go_ret;exact ⟨by rw [HF.out];rfl,by trivial⟩
     | false =>
      have HF:Hid ((Ck.goT (i+1) (s.drop (i+1))&&!n0)=b):=by show _=_;rw [←hN];rfl
      clear hN HN;go_wp2_with fail;go_roundw
      case rel=>exact ⟨i+1,by omega,by go_num,HF,by trivial⟩
      case measure=>simp [intOf];omega
  · have i0:decide ((i:Int)<((bs s).size:Int))=false:=dF (by omega);have hil:s.length≤i:=by rw [←HZ.out];exact hin
    have HF:Hid (b=!n0):=by show _=_;rw [←HR.out,Jt hil];rfl
    clear HR hil;cases n0 <;> (
     go_wp2_with fail;go_ret;exact ⟨by rw [HF.out];rfl,by trivial⟩)
end Go.Proofs.YtdaejggcjjdhkaaGreatDoor
namespace Go.Proofs.YtdaejggcjjdhkaaGreatDoor
open Go Go.RowKit Go.Shelf
def Tryz.lays160_ren : Go.Shelf.Ren := ⟨fun | 160 => 53 | 232 => 112 | 231 => 111 | 227 => 113 | 234 => 115 | 233 => 114 | 236 => 117 | 235 => 116 | 228 => 149 | 271 => 152 | 151 => 151 | 197 => 150 | 120 => 176 | 152 => 175 | 260 => 174 | 137 => 109 | 119 => 193 | 224 => 169 | 225 => 168 | 217 => 145 | 266 => 171 | n => n, fun | 9 => 9 | 4 => 4 | 3 => 3 | 5 => 5 | 117 => 138 | 116 => 137 | 0 => 0 | 124 => 141 | 21 => 21 | 105 => 171 | 46 => 130 | 119 => 126 | 139 => 129 | 138 => 128 | n => n, fun | 3 => 1 | 4 => 2 | n => n⟩
theorem Tryz.lays160 : Go.Proofs.Lays.n160 Tryz.prog Tryz.lays160_ren := {
  mixed := by kernel_rfl
  f119 := Tryz.func193.trans (congrArg some (by kernel_rfl))
  f120 := Tryz.func176.trans (congrArg some (by kernel_rfl))
  f137 := Tryz.func109.trans (congrArg some (by kernel_rfl))
  f151 := Tryz.func151.trans (congrArg some (by kernel_rfl))
  f152 := Tryz.func175.trans (congrArg some (by kernel_rfl))
  f160 := Tryz.func53.trans (congrArg some (by kernel_rfl))
  f197 := Tryz.func150.trans (congrArg some (by kernel_rfl))
  f217 := Tryz.func145.trans (congrArg some (by kernel_rfl))
  f224 := Tryz.func169.trans (congrArg some (by kernel_rfl))
  f225 := Tryz.func168.trans (congrArg some (by kernel_rfl))
  f227 := Tryz.func113.trans (congrArg some (by kernel_rfl))
  f228 := Tryz.func149.trans (congrArg some (by kernel_rfl))
  f231 := Tryz.func111.trans (congrArg some (by kernel_rfl))
  f232 := Tryz.func112.trans (congrArg some (by kernel_rfl))
  f233 := Tryz.func114.trans (congrArg some (by kernel_rfl))
  f234 := Tryz.func115.trans (congrArg some (by kernel_rfl))
  f235 := Tryz.func116.trans (congrArg some (by kernel_rfl))
  f236 := Tryz.func117.trans (congrArg some (by kernel_rfl))
  f260 := Tryz.func174.trans (congrArg some (by kernel_rfl))
  f266 := Tryz.func171.trans (congrArg some (by kernel_rfl))
  f271 := Tryz.func152.trans (congrArg some (by kernel_rfl))
  t0 := Tryz.underlying0
  a0 := Tryz.isAgg0
  z0 := Tryz.sizeOf0
  v0 := Tryz.zeroValue0
  t3 := Tryz.underlying3
  a3 := Tryz.isAgg3
  z3 := Tryz.sizeOf3
  v3 := Tryz.zeroValue3
  t4 := Tryz.underlying4
  a4 := Tryz.isAgg4
  z4 := Tryz.sizeOf4
  v4 := Tryz.zeroValue4
  t5 := Tryz.underlying5
  a5 := Tryz.isAgg5
  z5 := Tryz.sizeOf5
  v5 := Tryz.zeroValue5
  t9 := Tryz.underlying9
  a9 := Tryz.isAgg9
  z9 := Tryz.sizeOf9
  v9 := Tryz.zeroValue9
  t21 := Tryz.underlying21
  a21 := Tryz.isAgg21
  z21 := Tryz.sizeOf21
  v21 := Tryz.zeroValue21
  t46 := Tryz.underlying130
  a46 := Tryz.isAgg130
  z46 := Tryz.sizeOf130
  v46 := Tryz.zeroValue130
  t105 := Tryz.underlying171
  a105 := Tryz.isAgg171
  z105 := Tryz.sizeOf171
  v105 := Tryz.zeroValue171
  t116 := Tryz.underlying137
  a116 := Tryz.isAgg137
  z116 := Tryz.sizeOf137
  t117 := Tryz.underlying138
  a117 := Tryz.isAgg138
  z117 := Tryz.sizeOf138
  v117 := Tryz.zeroValue138
  t119 := Tryz.underlying126
  a119 := Tryz.isAgg126
  z119 := Tryz.sizeOf126
  t124 := Tryz.underlying141
  a124 := Tryz.isAgg141
  z124 := Tryz.sizeOf141
  v124 := Tryz.zeroValue141
  t138 := Tryz.underlying128
  a138 := Tryz.isAgg128
  z138 := Tryz.sizeOf128
  v138 := Tryz.zeroValue128
  t139 := Tryz.underlying129
  a139 := Tryz.isAgg129
  z139 := Tryz.sizeOf129
  v139 := Tryz.zeroValue129
  g3 := by kernel_rfl
  g4 := by kernel_rfl }
def Tryz.lays146_ren : Go.Shelf.Ren := ⟨fun | 146 => 52 | 221 => 110 | 268 => 146 | 138 => 147 | 143 => 148 | 195 => 172 | 197 => 150 | 218 => 173 | 219 => 144 | 260 => 174 | 217 => 145 | 225 => 168 | 224 => 169 | 267 => 170 | 266 => 171 | 314 => 192 | n => n, fun | 9 => 9 | 31 => 38 | 3 => 3 | 4 => 4 | 0 => 0 | 105 => 171 | 21 => 21 | 5 => 5 | 46 => 130 | 119 => 126 | 139 => 129 | 138 => 128 | 146 => 221 | 51 => 220 | n => n, fun | 1 => 3 | 3 => 1 | 4 => 2 | n => n⟩
theorem Tryz.lays146 : Go.Proofs.Lays.n146 Tryz.prog Tryz.lays146_ren := {
  mixed := by kernel_rfl
  f138 := Tryz.func147.trans (congrArg some (by kernel_rfl))
  f143 := Tryz.func148.trans (congrArg some (by kernel_rfl))
  f146 := Tryz.func52.trans (congrArg some (by kernel_rfl))
  f195 := Tryz.func172.trans (congrArg some (by kernel_rfl))
  f197 := Tryz.func150.trans (congrArg some (by kernel_rfl))
  f217 := Tryz.func145.trans (congrArg some (by kernel_rfl))
  f218 := Tryz.func173.trans (congrArg some (by kernel_rfl))
  f219 := Tryz.func144.trans (congrArg some (by kernel_rfl))
  f221 := Tryz.func110.trans (congrArg some (by kernel_rfl))
  f224 := Tryz.func169.trans (congrArg some (by kernel_rfl))
  f225 := Tryz.func168.trans (congrArg some (by kernel_rfl))
  f260 := Tryz.func174.trans (congrArg some (by kernel_rfl))
  f266 := Tryz.func171.trans (congrArg some (by kernel_rfl))
  f267 := Tryz.func170.trans (congrArg some (by kernel_rfl))
  f268 := Tryz.func146.trans (congrArg some (by kernel_rfl))
  f314 := Tryz.func192.trans (congrArg some (by kernel_rfl))
  t0 := Tryz.underlying0
  a0 := Tryz.isAgg0
  z0 := Tryz.sizeOf0
  v0 := Tryz.zeroValue0
  t3 := Tryz.underlying3
  a3 := Tryz.isAgg3
  z3 := Tryz.sizeOf3
  v3 := Tryz.zeroValue3
  t4 := Tryz.underlying4
  a4 := Tryz.isAgg4
  z4 := Tryz.sizeOf4
  v4 := Tryz.zeroValue4
  t5 := Tryz.underlying5
  a5 := Tryz.isAgg5
  z5 := Tryz.sizeOf5
  v5 := Tryz.zeroValue5
  t9 := Tryz.underlying9
  a9 := Tryz.isAgg9
  z9 := Tryz.sizeOf9
  v9 := Tryz.zeroValue9
  t21 := Tryz.underlying21
  a21 := Tryz.isAgg21
  z21 := Tryz.sizeOf21
  v21 := Tryz.zeroValue21
  t31 := Tryz.underlying38
  a31 := Tryz.isAgg38
  z31 := Tryz.sizeOf38
  v31 := Tryz.zeroValue38
  t46 := Tryz.underlying130
  a46 := Tryz.isAgg130
  z46 := Tryz.sizeOf130
  v46 := Tryz.zeroValue130
  t51 := Tryz.underlying220
  a51 := Tryz.isAgg220
  z51 := Tryz.sizeOf220
  v51 := Tryz.zeroValue220
  t105 := Tryz.underlying171
  a105 := Tryz.isAgg171
  z105 := Tryz.sizeOf171
  v105 := Tryz.zeroValue171
  t119 := Tryz.underlying126
  a119 := Tryz.isAgg126
  z119 := Tryz.sizeOf126
  t138 := Tryz.underlying128
  a138 := Tryz.isAgg128
  z138 := Tryz.sizeOf128
  v138 := Tryz.zeroValue128
  t139 := Tryz.underlying129
  a139 := Tryz.isAgg129
  z139 := Tryz.sizeOf129
  v139 := Tryz.zeroValue129
  t146 := Tryz.underlying221
  a146 := Tryz.isAgg221
  z146 := Tryz.sizeOf221
  v146 := Tryz.zeroValue221
  g1 := by kernel_rfl
  g3 := by kernel_rfl
  g4 := by kernel_rfl }
def Tryz.lays145_ren : Go.Shelf.Ren := ⟨fun | 145 => 50 | 220 => 108 | 219 => 144 | 217 => 145 | 225 => 168 | 224 => 169 | 267 => 170 | 266 => 171 | 314 => 192 | n => n, fun | 9 => 9 | 4 => 4 | 59 => 84 | 3 => 3 | 5 => 5 | 46 => 130 | 146 => 221 | 51 => 220 | n => n, fun | 1 => 3 | n => n⟩
theorem Tryz.lays145 : Go.Proofs.Lays.n145 Tryz.prog Tryz.lays145_ren := {
  mixed := by kernel_rfl
  f145 := Tryz.func50.trans (congrArg some (by kernel_rfl))
  f217 := Tryz.func145.trans (congrArg some (by kernel_rfl))
  f219 := Tryz.func144.trans (congrArg some (by kernel_rfl))
  f220 := Tryz.func108.trans (congrArg some (by kernel_rfl))
  f224 := Tryz.func169.trans (congrArg some (by kernel_rfl))
  f225 := Tryz.func168.trans (congrArg some (by kernel_rfl))
  f266 := Tryz.func171.trans (congrArg some (by kernel_rfl))
  f267 := Tryz.func170.trans (congrArg some (by kernel_rfl))
  f314 := Tryz.func192.trans (congrArg some (by kernel_rfl))
  t3 := Tryz.underlying3
  a3 := Tryz.isAgg3
  z3 := Tryz.sizeOf3
  v3 := Tryz.zeroValue3
  t4 := Tryz.underlying4
  a4 := Tryz.isAgg4
  z4 := Tryz.sizeOf4
  v4 := Tryz.zeroValue4
  t5 := Tryz.underlying5
  a5 := Tryz.isAgg5
  z5 := Tryz.sizeOf5
  v5 := Tryz.zeroValue5
  t9 := Tryz.underlying9
  a9 := Tryz.isAgg9
  z9 := Tryz.sizeOf9
  v9 := Tryz.zeroValue9
  t46 := Tryz.underlying130
  a46 := Tryz.isAgg130
  z46 := Tryz.sizeOf130
  v46 := Tryz.zeroValue130
  t51 := Tryz.underlying220
  a51 := Tryz.isAgg220
  z51 := Tryz.sizeOf220
  v51 := Tryz.zeroValue220
  t59 := Tryz.underlying84
  a59 := Tryz.isAgg84
  z59 := Tryz.sizeOf84
  v59 := Tryz.zeroValue84
  t146 := Tryz.underlying221
  a146 := Tryz.isAgg221
  z146 := Tryz.sizeOf221
  v146 := Tryz.zeroValue221
  g1 := by kernel_rfl }
def Tryz.lays137_ren : Go.Shelf.Ren := ⟨fun | 137 => 109 | 217 => 145 | 266 => 171 | n => n, fun | 9 => 9 | 5 => 5 | 3 => 3 | n => n, fun | n => n⟩
theorem Tryz.lays137 : Go.Proofs.Lays.n137 Tryz.prog Tryz.lays137_ren := {
  mixed := by kernel_rfl
  f137 := Tryz.func109.trans (congrArg some (by kernel_rfl))
  f217 := Tryz.func145.trans (congrArg some (by kernel_rfl))
  f266 := Tryz.func171.trans (congrArg some (by kernel_rfl))
  t3 := Tryz.underlying3
  a3 := Tryz.isAgg3
  z3 := Tryz.sizeOf3
  v3 := Tryz.zeroValue3
  t5 := Tryz.underlying5
  a5 := Tryz.isAgg5
  z5 := Tryz.sizeOf5
  v5 := Tryz.zeroValue5
  t9 := Tryz.underlying9
  a9 := Tryz.isAgg9
  z9 := Tryz.sizeOf9
  v9 := Tryz.zeroValue9 }
def Maxl (w:World):Prop:=∃ m,w.cell? ⟨Tryz.lays145_ren.g 1,0,none⟩=some (.int .i64 m)
theorem Maxl.below {w w':World} {B:Nat} (h:Maxl w) (hb:Below B w w') (hB:Tryz.lays145_ren.g 1<B):Maxl w':=by obtain ⟨m,hm⟩:=h;exact ⟨m,(hb.cell (p:=⟨_,0,none⟩) hB).trans hm⟩
theorem Maxl.lt {w:World} (h:Maxl w):Tryz.lays145_ren.g 1<w.heap.size:=by obtain ⟨m,hm⟩:=h;exact Je w _ hm
theorem Maxl.grow {w w':World} (h:Maxl w) (hb:Below w.heap.size w w'):Maxl w':=h.below hb h.lt
section
variable (l:List UInt8) (w:World)
theorem Yb (hs:l.length≤9223372036854775807) {t:List UInt8} (H:Hid (Lib.trimS l [46,95,45]=t)):Calls Tryz.prog 53 #[.string (bs l),.string ⟨#[46,95,45]⟩] w fun e w'=>e=.returned (.string (bs t))∧Below w.heap.size w w':=by rw [←H.out];exact Any.strings_Trim_laid Tryz.lays160 (by kernel_rfl) (bs l) ⟨#[46,95,45]⟩ w (by rw [zd];exact hs) (by decide) (ascii_of_all (by decide))
theorem WF (hs:l.length≤2000000) (hmx:Maxl w) {ls:List (List UInt8)} (H:Hid (Gl.cutL 47 l=ls)):Calls Tryz.prog 52 #[.string (bs l),.string ⟨#[47]⟩] w fun e w'=>e=.returned (.slice (some ⟨w.heap.size,0,none⟩) ls.length ls.length)∧Blk w' w.heap.size 9 (sc ls).toArray∧Below w.heap.size w w':=by
 obtain ⟨m,hm⟩:=hmx;have hc:=Any.strings_Split Tryz.lays146 (by kernel_rfl) (bs l) ⟨#[47]⟩ m w (by rw [zd];omega) hm (by decide);have e1:(Lib.splitB ⟨#[47]⟩ 0 (Lib.countB (bs l) ⟨#[47]⟩) (bs l)).map (fun x=>x.data.toList)=ls:=by rw [Lib.splitB_data,←H.out];have e2:Lib.countB (bs l) ⟨#[47]⟩=l.count 47:=Lib.count_one 47 _;rw [e2];exact Gl.splitK_cut 47 _ l (Jd _)
 have e2:Lib.countB (bs l) ⟨#[47]⟩+1=ls.length:=by rw [←e1,Jo];exact (Lib.splitB_all ⟨#[47]⟩ (by decide) 0 _ (bs l) rfl).symm
 have e3:(Lib.splitB ⟨#[47]⟩ 0 (Lib.countB (bs l) ⟨#[47]⟩) (bs l)).map Value.string=sc ls:=by rw [←e1,sc,List.map_map];exact List.map_congr_left fun x _=>by rw [Function.comp];exact congrArg Value.string (Ym x).symm
 rw [e2,e3] at hc;refine hc.mono ?_;rintro e w' ⟨rfl,rfl⟩;exact ⟨rfl,Blk.new _ _ _,(Ja _ _).alloc (Jd _) _⟩
theorem Qg (hs:l.length<4294967281) (hm:Maxl w) {a r:List UInt8} {b:Bool} (hc:Hid (Lib.cut l [58]=(a,r,b))):Calls Tryz.prog 50 #[.string (bs l),.string ⟨#[58]⟩] w fun e w'=>e=.returned (.tuple #[.string (bs a),.string (bs r),.bool b])∧Below w.heap.size w w':=by obtain ⟨m,hm⟩:=hm;have:=Any.strings_Cut Tryz.lays145 (bs l) ⟨#[58]⟩ m w (by rw [zd];exact hs) hm;refine Calls.mono this ?_;rintro e w' ⟨rfl,n,rfl⟩;refine ⟨?_,zj (Ja _ _) n⟩;have e1:(bs l).data.toList=l:=Zh l;rw [e1,show (⟨#[58]⟩:ByteArray).data.toList=[58] from rfl,hc.out];rfl
theorem Za (c:UInt8) {x:Int} (H:Hid (Lib.indexByte l c=x)):Calls Tryz.prog 109 #[.string (bs l),.int .u8 (c.toNat:Int)] w fun e w'=>e=.returned (.int .i64 x)∧w=w':=by
 refine (Any.strings_IndexByte Tryz.lays137 (bs l) (c.toNat:Int) w).mono ?_;rintro e w' ⟨rfl,h⟩;have e1:(bs l).data.toList=l:=Zh l;have e2:((c.toNat:Int)).toNat.toUInt8=c:=by rw [Int.toNat_natCast];exact UInt8.ofNat_toNat
 rw [e1,e2,H.out];exact ⟨rfl,h.symm⟩
end
theorem Qf {a r:List UInt8} (ha:∀ c∈a,c≠58):Lib.cut (a++58::r) [58]=(a,r,true):=by
 rcases Gl.index_byte 58 (a++58::r) with ⟨_,h⟩ | ⟨x,y,h1,h2,h3⟩
 · exact absurd rfl (h 58 (by simp))
 · have:a=x∧r=y:=by
    clear h3
    induction a generalizing x with
    | nil =>
     cases x with
     | nil=>injection h1 with _ h1;exact ⟨rfl,h1⟩
     | cons c x=>injection h1 with h1 _;exact absurd h1.symm (h2 c (by simp))
    | cons d a ih =>
     cases x with
     | nil=>injection h1 with h1 _;exact absurd h1 (ha d (by simp))
     | cons c x =>injection h1 with h1 h4;obtain ⟨q1,q2⟩:=ih (fun z hz=>ha z (by simp [hz])) x h4 (fun z hz=>h2 z (by simp [hz]));exact ⟨by rw [h1,q1],q2⟩
   obtain ⟨rfl,rfl⟩:=this;unfold Lib.cut;rw [h3];simp
theorem ja {s:List UInt8} (hs:∀ c∈s,c≠58):Lib.cut s [58]=(s,[],false):=by
 rcases Gl.index_byte 58 s with ⟨h,_⟩ | ⟨x,y,h1,_,_⟩
 · unfold Lib.cut;rw [h];simp
 · exact absurd rfl (hs 58 (by rw [h1];simp))
end Go.Proofs.YtdaejggcjjdhkaaGreatDoor
namespace Go.Proofs.YtdaejggcjjdhkaaGreatDoor
open Go Go.RowKit
namespace Ck
theorem j7:∀ (l:List UInt8) (c:UInt8),-1≤Lib.indexByte l c
 | [],_=>by simp [Lib.indexByte]
 | b::l,c=>by
  have:=j7 l c;rw [Lib.indexByte]
  split
  · omega
  · split <;> omega
theorem ix_lt:∀ (l:List UInt8) (c:UInt8),decide (Lib.indexByte l c<0)=!l.contains c
 | [],_=>by simp [Lib.indexByte]
 | b::l,c=>by
  have ih:=ix_lt l c;have hg:=j7 l c;rw [Lib.indexByte,List.contains_cons]
  by_cases h:b=c
  · subst h;simp
  · have h1:(b==c)=false:=by simpa using h
    have h2:(c==b)=false:=by simpa using fun e=>h e.symm
    rw [h1,h2,Bool.false_or,←ih];simp only [Bool.false_eq_true,if_false]
    split
    · rename_i h3;rw [Jx] at h3;rw [h3]
    · rename_i h3;have h4:¬ Lib.indexByte l c=-1:=by simpa using h3
      rw [decide_eq_decide];omega
end Ck
theorem YY (s others:List UInt8) (cp:Bool) (hs:s.length≤2000000) (w:World) {b:Bool} (H:Hid (Ck.ofL s others cp=b)):Calls Tryz.prog 51 #[.string (bs s),.string (bs others),.bool cp] w fun e w'=>e=.returned (.bool b)∧w=w':=by
 have hz:=zd s;have HZ:=hY hz;have hs2:(bs s).size≤2000000:=by omega
 obtain ⟨n0,en⟩:∃ n0,(bs s).toList.isEmpty=n0:=⟨_,rfl⟩
 obtain ⟨f,hf⟩:∃ f:UInt8→Bool,Hid ((fun c=>Ck.small c||Ck.digit c||cp&&Ck.big c||others.contains c)=f):=⟨_,hY rfl⟩
 have H0:Hid (((s.drop 0).all f&&!n0)=b):=by show _=_;rw [Jw,←en,zh,←H.out,←hf.out];rfl
 clear hz H;go_enter Tryz.func51,Tryz.ntmps51;go_wp2_with fail;go_loopw [7,8,11] (fun _ _ t11 wr=>∃ i:Nat,i≤(bs s).size∧t11=.int .i64 (i:Int)∧Hid (((s.drop i).all f&&!n0)=b)∧w=wr) (fun _ _ t11 _=>(bs s).size - (intOf t11).toNat)
 case atStart=>exact ⟨0,by omega,rfl,H0,by trivial⟩
 case round =>
  clear H0;obtain ⟨i,hi,rfl,HR,rfl⟩:=hrel;have j0:(0:Int)≤(i:Int):=by omega
  rcases Jh i (bs s).size with hin | hin
  · have i0:decide ((i:Int)<((bs s).size:Int))=true:=dT (by omega);have i1:(i:Int)<((bs s).size:Int):=by omega
    have hil:i<s.length:=by rw [←HZ.out];exact hin
    have hR:=HR.out;rw [Js hil,show s[i]=(bs s)[i]'hin from rfl,List.all_cons] at hR;obtain ⟨c,hc⟩:∃ c,(bs s)[i]'hin=c:=⟨_,rfl⟩
    rw [hc] at hR;have hby:c.toNat<256:=Jm _;obtain ⟨a1,e1⟩:∃ x,decide ((97:Int)≤(c.toNat:Int))=x:=⟨_,rfl⟩
    obtain ⟨a2,e2⟩:∃ x,decide ((c.toNat:Int)≤122)=x:=⟨_,rfl⟩
    obtain ⟨d1,e3⟩:∃ x,decide ((48:Int)≤(c.toNat:Int))=x:=⟨_,rfl⟩
    obtain ⟨d2,e4⟩:∃ x,decide ((c.toNat:Int)≤57)=x:=⟨_,rfl⟩
    obtain ⟨g1,e5⟩:∃ x,decide ((65:Int)≤(c.toNat:Int))=x:=⟨_,rfl⟩
    obtain ⟨g2,e6⟩:∃ x,decide ((c.toNat:Int)≤90)=x:=⟨_,rfl⟩
    obtain ⟨k,hk⟩:∃ k,((a1&&a2)||(d1&&d2)||(cp&&g1&&g2))=k:=⟨_,rfl⟩
    have hF:f c=(k||others.contains c):=by rw [←hf.out];show (Ck.small c||Ck.digit c||cp&&Ck.big c||others.contains c)=_;rw [Zz,ZI,Wp,e1,e2,e3,e4,e5,e6,←hk,Bool.and_assoc]
    rw [hF] at hR;have HQ:=hY hk;have HN:=hY hR;clear hR HR hk hil hF;go_upto_region 5 with fail;go_cut [41] (fun s41 wx=>s41=.bool k∧w=wx)
    case first =>
     clear HN;cases a1 <;> cases a2 <;> cases d1 <;> cases d2 <;> cases cp <;> cases g1 <;> cases g2 <;> (
      go_wp2_with fail;go_meet;exact ⟨by rw [←HQ.out];rfl,by trivial⟩)
    case rest =>
     obtain ⟨rfl,rfl⟩:=hcut;clear e1 e2 e3 e4 e5 e6 HQ;cases k with
     | true =>
      have HF:Hid (((s.drop (i+1)).all f&&!n0)=b):=by show _=_;rw [←HN.out];rfl
      clear HN;go_wp2_with fail;go_roundw
      case rel=>exact ⟨i+1,by omega,by go_num,HF,by trivial⟩
      case measure=>simp [intOf];omega
     | false =>
      obtain ⟨x,hx⟩:∃ x,Hid (Lib.indexByte others c=x):=⟨_,hY rfl⟩
      obtain ⟨y,ey⟩:∃ y,decide (x<0)=y:=⟨_,rfl⟩
      have HY:Hid (others.contains c=!y):=by show _=_;rw [←ey,←hx.out,Ck.ix_lt,Bool.not_not]
      cases y with
      | true =>
       have HF:Hid (b=false):=by show _=_;rw [←HN.out,HY.out];rfl
       clear HN HY;go_wp2_with fail;refine (Za others _ c hx).mono ?_;rintro r w1 ⟨rfl,rfl⟩;go_wp2_with fail;go_ret;exact ⟨by rw [HF.out];rfl,by trivial⟩
      | false =>
       have HF:Hid (((s.drop (i+1)).all f&&!n0)=b):=by show _=_;rw [←HN.out,HY.out];rfl
       clear HN HY;go_wp2_with fail;refine (Za others _ c hx).mono ?_;rintro r w1 ⟨rfl,rfl⟩;go_wp2_with fail;go_roundw
       case rel=>exact ⟨i+1,by omega,by go_num,HF,by trivial⟩
       case measure=>simp [intOf];omega
  · have i0:decide ((i:Int)<((bs s).size:Int))=false:=dF (by omega);have hil:s.length≤i:=by rw [←HZ.out];exact hin
    have HF:Hid (b=!n0):=by show _=_;rw [←HR.out,Jt hil];rfl
    clear HR hil;cases n0 <;> (
     go_wp2_with fail;go_ret;exact ⟨by rw [HF.out];rfl,by trivial⟩)
namespace Ck
theorem ref_all (s:List UInt8):∃ a r h t n,Lib.cut s [58]=(a,r,h)∧(h=true→t=r∧n=s.length)∧(h=false→t=latest∧n=s.length+7)∧a.length≤s.length∧t.length≤s.length+6∧
  refR s=(decide (n≤96)&&decide (a≠scratch)&&tagP t&&(Gl.cutL 47 a).all pieceP):=by
 rcases Gl.index_byte 58 s with ⟨_,h⟩ | ⟨a,r,rfl,h,_⟩
 · refine ⟨s,[],false,latest,s.length+7,ja h,(fun e=>by cases e),fun _=>⟨rfl,rfl⟩,Jd _,by simp [latest],?_⟩;rw [VC s h,YM,Bool.and_true]
 · exact ⟨a,r,true,r,_,Qf h,fun _=>⟨rfl,rfl⟩,(fun e=>by cases e),by simp,by simp;omega,Yg a r h⟩
end Ck
theorem X8 (s:List UInt8) (hs:s.length≤2000000) (w:World) {b:Bool} (H:Hid (Ck.ofL s [95,46,45] true=b)):Calls Tryz.prog 51 #[.string (bs s),.string ⟨#[95,46,45]⟩,.bool true] w fun e w'=>e=.returned (.bool b)∧w=w':=YY s [95,46,45] true hs w H
theorem YX (s:List UInt8) (hs:s.length≤2000000) (w:World) {b:Bool} (H:Hid (Ck.ofL s [46,95,45] false=b)):Calls Tryz.prog 51 #[.string (bs s),.string ⟨#[46,95,45]⟩,.bool false] w fun e w'=>e=.returned (.bool b)∧w=w':=YY s [46,95,45] false hs w H
theorem zaq (l:List UInt8) (h:0<(bs l).size):l[0]?=some ((bs l)[0]'h):=by
 have h2:0<l.length:=by rw [←zd];exact h
 rw [Jk h2];rfl
def QJ (b:Bool):Value:=if b then .nilIface else .iface 70 (.int .i64 31)
theorem yr (s:List UInt8) (hs:s.length≤1100000) (w:World) (hm:Maxl w) {b:Bool} (H:Hid (Ck.refR s=b)):Calls Tryz.prog 20 #[.string (bs s)] w fun e w'=>e=.returned (QJ b)∧Below w.heap.size w w':=by
 obtain ⟨a,r,h,t,n,hc,hy,hn,hal,htl,hsp⟩:=Ck.ref_all s;have hz:=zd s;have HC:=hY hc;have HM:=hY hm;have HT:Hid ((if h then r else Ck.latest)=t):=by
  show _=_;cases h with
  | true=>exact (hy rfl).1.symm
  | false=>exact (hn rfl).1.symm
 have hnn:(n:Int)=if h then ((bs s).size:Int) else ((bs s).size:Int)+7:=by
  cases h with
  | true=>have:=(hy rfl).2;simp;omega
  | false=>have:=(hn rfl).2;simp;omega
 have hn2:n≤1100007:=by
  cases h with
  | true=>have:=(hy rfl).2;omega
  | false=>have:=(hn rfl).2;omega
 have HN:=hY hnn;have HSP:Hid ((decide (n≤96)&&decide (a≠Ck.scratch)&&Ck.tagP t&&(Gl.cutL 47 a).all Ck.pieceP)=b):=hY (by rw [←hsp];exact H.out);have hss:(bs s).size≤1100000:=by omega
 clear hc hy hn hsp H hm hnn hz;go_enter Tryz.func20,Tryz.ntmps20;go_wp2_with fail;refine (Qg s _ (by omega) HM.out HC).mono ?_;rintro e w1 ⟨rfl,p1⟩;have HP1:=hY p1;have HM1:=hY (HM.out.grow p1);clear p1;go_upto_if 18 with fail;go_cut [4,6] (fun s4 s6 wx=>s4=.string (bs t)∧s6=.int .i64 (n:Int)∧w1=wx)
 case first =>
  cases h with
  | true =>have e1:r=t:=HT.out;subst e1;have e2:(n:Int)=((bs s).size:Int):=HN.out;go_wp2_with fail;go_meet;exact ⟨by trivial,by rw [e2],by trivial⟩
  | false =>
   have e1:Ck.latest=t:=HT.out;subst e1;have e2:(n:Int)=((bs s).size:Int)+7:=HN.out;have e3:IntKind.i64.wrap (((bs s).size:Int)+7)=(n:Int):=by rw [IntWalk.i64_in _ (by omega)];exact e2.symm
   go_wp2_with fail;go_meet;exact ⟨rfl,by first | rfl | rw [e2],by trivial⟩
 case rest =>
  obtain ⟨rfl,rfl,rfl⟩:=hcut;have HP:=HP1;obtain ⟨z1,e1⟩:∃ z,decide ((96:Int)<(n:Int))=z:=⟨_,rfl⟩
  obtain ⟨z2,e2⟩:∃ z,((bs a).toList==[115,99,114,97,116,99,104])=z:=⟨_,rfl⟩
  obtain ⟨o,ho⟩:∃ o,Hid (Ck.ofL t [95,46,45] true=o):=⟨_,hY rfl⟩
  have hz2:decide (a≠Ck.scratch)=!z2:=by rw [←e2,zh,Jz,Jj,Bool.not_eq_true',Jr];exact Iff.rfl
  have hz1:decide (n≤96)=!z1:=by rw [←e1,Jz,Jj,Bool.not_eq_true',Ka];omega
  have hs3:=HSP.out;rw [hz1,hz2] at hs3;have HS3:=hY hs3;clear hs3 hz1 hz2 HSP HN HT HC;cases z1 with
  | true =>
   have HF:Hid (b=false):=by show _=_;rw [←HS3.out];rfl
   go_wp2_with fail;go_ret;exact ⟨by rw [HF.out];rfl,HP.out⟩
  | false =>
   cases z2 with
   | true =>
    have HF:Hid (b=false):=by show _=_;rw [←HS3.out];rfl
    go_wp2_with fail;go_ret;exact ⟨by rw [HF.out];rfl,HP.out⟩
   | false =>
    cases o with
    | false =>
     have HF:Hid (b=false):=by show _=_;rw [←HS3.out,Ck.tagP,ho.out];rfl
     go_wp2_with fail;refine (X8 t (by omega) _ ho).mono ?_;rintro e w3 ⟨rfl,rfl⟩;go_wp2_with fail;go_ret;exact ⟨by rw [HF.out];rfl,HP.out⟩
    | true =>
     obtain ⟨c,rt,hct⟩:∃ c rt,t=c::rt:=by
      cases t with
      | nil=>exact absurd ho.out (by decide)
      | cons c rt=>exact ⟨c,rt,rfl⟩
     have hpos:0<(bs t).size:=by rw [zd,hct];simp
     have hposi:(0:Int)<((bs t).size:Int):=by omega
     have hc0:(bs t)[0]'hpos=c:=by
      have e0:t[0]?=some c:=by rw [hct];rfl
      have:=zaq t hpos;rw [e0] at this;exact (Jc this).symm
     have hby:c.toNat<256:=Jm _;obtain ⟨m1,f1⟩:∃ m,((c.toNat:Int)==46)=m:=⟨_,rfl⟩
     obtain ⟨m2,f2⟩:∃ m,((c.toNat:Int)==45)=m:=⟨_,rfl⟩
     have hT:Ck.tagP t=(!m1&&!m2):=by
      have g1:(some c != some (46:UInt8))=!m1:=by rw [←f1,show (46:Int)=(((46:UInt8).toNat:Nat):Int) from rfl,←bne,zO];cases hq:c==46 <;> simp_all [bne]
      have g2:(some c != some (45:UInt8))=!m2:=by rw [←f2,show (45:Int)=(((45:UInt8).toNat:Nat):Int) from rfl,←bne,zO];cases hq:c==45 <;> simp_all [bne]
      rw [Ck.tagP,ho.out,hct,List.head?_cons,g1,g2,Bool.true_and]
     have hs4:=HS3.out;rw [hT] at hs4;have HS4:=hY hs4;clear hs4 hT hct HS3;cases m1 with
     | true =>
      have HF:Hid (b=false):=by show _=_;rw [←HS4.out];rfl
      go_wp2_with fail;refine (X8 t (by omega) _ ho).mono ?_;rintro e w3 ⟨rfl,rfl⟩;go_wp2_with fail;go_ret;exact ⟨by rw [HF.out];rfl,HP.out⟩
     | false =>
      cases m2 with
      | true =>
       have HF:Hid (b=false):=by show _=_;rw [←HS4.out];rfl
       go_wp2_with fail;refine (X8 t (by omega) _ ho).mono ?_;rintro e w3 ⟨rfl,rfl⟩;go_wp2_with fail;go_ret;exact ⟨by rw [HF.out];rfl,HP.out⟩
      | false =>
       have HA:Hid ((Gl.cutL 47 a).all Ck.pieceP=b):=by show _=_;rw [←HS4.out];rfl
       clear HS4;obtain ⟨ls,hls⟩:∃ ls,Hid (Gl.cutL 47 a=ls):=⟨_,hY rfl⟩
       have hN:ls.length≤1100001:=by have:=Gl.cutL_length 47 a;rw [hls.out] at this;omega
       have HPL:Hid (∀ x∈ls,x.length≤1100000):=hY fun x hx=>by rw [←hls.out] at hx;have:=Gl.cutL_piece 47 a x hx;omega
       rw [hls.out] at HA;go_wp2_with fail;refine (X8 t (by omega) _ ho).mono ?_;rintro e w3 ⟨rfl,rfl⟩;go_wp2_with fail;refine (WF a _ (by omega) HM1.out hls).mono ?_;rintro e w2 ⟨rfl,hbk,p2⟩;have HBK:=hY hbk;have HP2:=hY (za HP.out p2 HP.out.size);have H0:Hid ((ls.drop 0).all Ck.pieceP=b):=hY (by rw [Jw];exact HA.out);clear hbk p2 HA;go_wp2_with fail;go_loopw [8,46] (fun _ t46 wr=>∃ i:Nat,i≤ls.length∧t46=.int .i64 (i:Int)∧Hid ((ls.drop i).all Ck.pieceP=b)∧Hid (Below w2.heap.size w2 wr)) (fun _ t46 _=>ls.length - (intOf t46).toNat)
       case atStart=>exact ⟨0,by omega,rfl,H0,hY (Ja _ _)⟩
       case round =>
        clear H0;rename World=>wr;obtain ⟨i,hi,rfl,HR,HB⟩:=hrel;have j0:(0:Int)≤(i:Int):=by omega
        rcases Jh i ls.length with hin | hin
        · have i0:decide ((i:Int)<(ls.length:Int))=true:=dT (by omega);have i1:(i:Int)<(ls.length:Int):=by omega
          have hR:=HR.out;rw [Js hin,List.all_cons] at hR;obtain ⟨p,hp⟩:∃ p,ls[i]=p:=⟨_,rfl⟩
          have hci:wr.cell? ⟨w1.heap.size,i,none⟩=some (.string (bs p)):=by rw [Blk.cell (HBK.out.below HB.out HBK.out.lt)];simp [sc,hin,hp]
          have hpl:p.length≤1100000:=HPL.out p (by rw [←hp];exact Jl hin);rw [hp] at hR;obtain ⟨o2,ho2⟩:∃ o,Hid (Ck.ofL p [46,95,45] false=o):=⟨_,hY rfl⟩
          obtain ⟨tr,htr⟩:∃ tr,Hid (Lib.trimS p [46,95,45]=tr):=⟨_,hY rfl⟩
          obtain ⟨y,ey⟩:∃ y,((bs tr).toList==(bs p).toList)=y:=⟨_,rfl⟩
          have hpc:Ck.pieceP p=(o2&&y):=by
           have hd:decide (tr=p)=(tr==p):=by rw [Jz,Jj,Jx]
           rw [Ck.pieceP,ho2.out,htr.out,←ey,zh,zh,hd]
          rw [hpc] at hR;have HR2:=hY hR;clear hR HR hpc hp;cases o2 with
          | false =>
           have HF:Hid (b=false):=by show _=_;rw [←HR2.out];rfl
           have HPE:=hY (za HP2.out HB.out HP2.out.size);go_wp2_with fail;refine (YX p (by omega) _ ho2).mono ?_;rintro e w4 ⟨rfl,rfl⟩;go_wp2_with fail;go_ret;exact ⟨by rw [HF.out];rfl,HPE.out⟩
          | true =>
           cases y with
           | false =>
            have HF:Hid (b=false):=by show _=_;rw [←HR2.out];rfl
            go_wp2_with fail;refine (YX p (by omega) _ ho2).mono ?_;rintro e w4 ⟨rfl,rfl⟩;go_wp2_with fail;refine (Yb p _ (by omega) htr).mono ?_;rintro e w5 ⟨rfl,p5⟩;have HB5:=hY (za HB.out p5 HB.out.size);go_wp2_with fail;go_ret;exact ⟨by rw [HF.out];rfl,za HP2.out HB5.out HP2.out.size⟩
           | true =>
            have HF:Hid ((ls.drop (i+1)).all Ck.pieceP=b):=by show _=_;rw [←HR2.out];rfl
            go_wp2_with fail;refine (YX p (by omega) _ ho2).mono ?_;rintro e w4 ⟨rfl,rfl⟩;go_wp2_with fail;refine (Yb p _ (by omega) htr).mono ?_;rintro e w5 ⟨rfl,p5⟩;have HB5:=hY (za HB.out p5 HB.out.size);clear p5;go_wp2_with fail;go_roundw
            case rel=>exact ⟨i+1,by omega,by go_num,HF,HB5⟩
            case measure=>simp [intOf];omega
        · have i0:decide ((i:Int)<(ls.length:Int))=false:=dF (by omega);have HF:Hid (b=true):=by show _=_;rw [←HR.out,Jt hin];rfl
          have HPE:=hY (za HP2.out HB.out HP2.out.size);clear HR;go_wp2_with fail;go_ret;exact ⟨by rw [HF.out];rfl,HPE.out⟩
end Go.Proofs.YtdaejggcjjdhkaaGreatDoor
namespace Go.Proofs.YtdaejggcjjdhkaaGreatDoor
open Go Go.RowKit Go.Shelf
theorem zam (c:UInt8) (w:World) {b:Bool} (H:Hid (Ck.digit c=b)):Calls Tryz.prog 136 #[.int .u8 (c.toNat:Int)] w fun e w'=>e=.returned (.bool b)∧w=w':=by
 obtain ⟨b1,e1⟩:∃ b1,decide ((48:Int)≤(c.toNat:Int))=b1:=⟨_,rfl⟩
 obtain ⟨b2,e2⟩:∃ b2,decide ((c.toNat:Int)≤57)=b2:=⟨_,rfl⟩
 have HB:Hid (b=(b1&&b2)):=by show _=_;rw [←H.out,ZI,e1,e2]
 clear H;cases b1 <;> cases b2 <;> (
  go_enter Tryz.func136,Tryz.ntmps136;go_wp2_with fail;go_ret;exact ⟨by rw [HB.out];rfl,rfl⟩)
theorem Uq (s:List UInt8) (hs:s.length≤2000000) (w:World) {b:Bool} (H:Hid (Ck.ofL s [95] true=b)):Calls Tryz.prog 51 #[.string (bs s),.string ⟨#[95]⟩,.bool true] w fun e w'=>e=.returned (.bool b)∧w=w':=YY s [95] true hs w H
theorem WW (s:List UInt8) (hs:s.length≤2000000) (w:World) {b:Bool} (H:Hid (Ck.ofL s [45,95,46] false=b)):Calls Tryz.prog 51 #[.string (bs s),.string ⟨#[45,95,46]⟩,.bool false] w fun e w'=>e=.returned (.bool b)∧w=w':=YY s [45,95,46] false hs w H
theorem WX (s:List UInt8) (hs:s.length≤2000000) (w:World) {b:Bool} (H:Hid (Ck.ofL s [46,45,95,47] true=b)):Calls Tryz.prog 51 #[.string (bs s),.string ⟨#[46,45,95,47]⟩,.bool true] w fun e w'=>e=.returned (.bool b)∧w=w':=YY s [46,45,95,47] true hs w H
theorem Ur {s o:List UInt8} {cp:Bool} (h:Ck.ofL s o cp=true):∃ c r,s=c::r:=by
 cases s with
 | nil=>exact absurd h (by simp [Ck.ofL])
 | cons c r=>exact ⟨c,r,rfl⟩
theorem Uv {s:List UInt8} {c:UInt8} {r:List UInt8} (h:s=c::r) (hp:0<(bs s).size):(bs s)[0]'hp=c:=by subst h;rfl
theorem Ud (s:List UInt8) (hs:s.length≤2000000) (w:World) {b:Bool} (H:Hid (Ck.varP s=b)):Calls Tryz.prog 97 #[.string (bs s)] w fun e w'=>e=.returned (.bool b)∧w=w':=by
 obtain ⟨o,ho⟩:∃ o,Hid (Ck.ofL s [95] true=o):=⟨_,hY rfl⟩
 cases o with
 | false =>have HF:Hid (b=false):=hY (by rw [←H.out,Ck.varP,ho.out];rfl);clear H;go_enter Tryz.func97,Tryz.ntmps97;go_wp2_with fail;refine (Uq s hs _ ho).mono ?_;rintro e w1 ⟨rfl,rfl⟩;go_wp2_with fail;go_ret;exact ⟨by rw [HF.out];rfl,rfl⟩
 | true =>
  obtain ⟨c,r,hc⟩:=Ur ho.out;have hpos:0<(bs s).size:=by rw [zd,hc];simp
  have hposi:(0:Int)<((bs s).size:Int):=by omega
  have hc0:=Uv hc hpos;have hby:c.toNat<256:=Jm _;obtain ⟨d,hd⟩:∃ d,Hid (Ck.digit c=d):=⟨_,hY rfl⟩
  have HF:Hid (b=!d):=hY (by rw [←H.out,Ck.varP,ho.out,hc,List.head?_cons,Option.any_some,hd.out,Bool.true_and]);clear H hc;go_enter Tryz.func97,Tryz.ntmps97;go_wp2_with fail;refine (Uq s hs _ ho).mono ?_;rintro e w1 ⟨rfl,rfl⟩;go_wp2_with fail;refine (zam c _ hd).mono ?_;rintro e w1 ⟨rfl,rfl⟩;cases d <;> (
   go_wp2_with fail;go_ret;exact ⟨by rw [HF.out];rfl,rfl⟩)
theorem Xy (s:List UInt8) (hs:s.length≤2000000) (w:World) {b:Bool} (H:Hid (Ck.stageP s=b)):Calls Tryz.prog 46 #[.string (bs s)] w fun e w'=>e=.returned (.bool b)∧w=w':=by
 obtain ⟨o,ho⟩:∃ o,Hid (Ck.ofL s [45,95,46] false=o):=⟨_,hY rfl⟩
 cases o with
 | false =>have HF:Hid (b=false):=hY (by rw [←H.out,Ck.stageP,ho.out];rfl);clear H;go_enter Tryz.func46,Tryz.ntmps46;go_wp2_with fail;refine (WW s hs _ ho).mono ?_;rintro e w1 ⟨rfl,rfl⟩;go_wp2_with fail;go_ret;exact ⟨by rw [HF.out];rfl,rfl⟩
 | true =>
  obtain ⟨c,r,hc⟩:=Ur ho.out;have hpos:0<(bs s).size:=by rw [zd,hc];simp
  have hposi:(0:Int)<((bs s).size:Int):=by omega
  have hc0:=Uv hc hpos;have hby:c.toNat<256:=Jm _;have hsz:(bs s).size≤2000000:=by rw [zd];exact hs
  obtain ⟨b1,e1⟩:∃ b,decide ((97:Int)≤(c.toNat:Int))=b:=⟨_,rfl⟩
  obtain ⟨b2,e2⟩:∃ b,decide ((c.toNat:Int)≤122)=b:=⟨_,rfl⟩
  obtain ⟨b3,e3⟩:∃ b,decide (((bs s).size:Int)≤96)=b:=⟨_,rfl⟩
  obtain ⟨b4,e4⟩:∃ b,(!(bs s).toList==[115,99,114,97,116,99,104])=b:=⟨_,rfl⟩
  have HF:Hid (b=(b1&&b2&&b3&&b4)):=hY (by
   have h3:decide (s.length≤96)=b3:=by rw [←e3,zd,decide_eq_decide];omega
   have h4:decide (s≠Ck.scratch)=b4:=by rw [←e4,zh,Jz,Jj,Bool.not_eq_true',Jr];exact Iff.rfl
   rw [←H.out,Ck.stageP,ho.out,h3,h4,hc,List.head?_cons,Option.any_some,Zz,e1,e2,Bool.true_and])
  clear H hc;go_enter Tryz.func46,Tryz.ntmps46;go_wp2_with fail;refine (WW s hs _ ho).mono ?_;rintro e w1 ⟨rfl,rfl⟩;cases b1 with
  | false =>go_wp2_with fail;go_ret;exact ⟨by rw [HF.out];rfl,rfl⟩
  | true =>
   cases b2 with
   | false =>go_wp2_with fail;go_ret;exact ⟨by rw [HF.out];rfl,rfl⟩
   | true =>
    cases b3 <;> cases b4 <;> (
     go_wp2_with fail;go_ret;exact ⟨by rw [HF.out];rfl,rfl⟩)
theorem Wx (l:List UInt8) (w:World) (hs:l.length≤2000000) {t:List UInt8} (H:Hid (Lib.trimS l [48,49,50,51,52,53,54,55]=t)):Calls Tryz.prog 53 #[.string (bs l),.string ⟨#[48,49,50,51,52,53,54,55]⟩] w fun e w'=>e=.returned (.string (bs t))∧Below w.heap.size w w':=by rw [←H.out];exact Any.strings_Trim_laid Tryz.lays160 (by kernel_rfl) (bs l) ⟨#[48,49,50,51,52,53,54,55]⟩ w (by rw [zd];omega) (by decide) (ascii_of_all (by decide))
theorem Yt (l:List UInt8) (w:World) (hs:l.length≤2000000) {t:List UInt8} (H:Hid (Lib.trimS l [48,49,50,51,52,53,54,55,56,57]=t)):Calls Tryz.prog 53 #[.string (bs l),.string ⟨#[48,49,50,51,52,53,54,55,56,57]⟩] w fun e w'=>e=.returned (.string (bs t))∧Below w.heap.size w w':=by rw [←H.out];exact Any.strings_Trim_laid Tryz.lays160 (by kernel_rfl) (bs l) ⟨#[48,49,50,51,52,53,54,55,56,57]⟩ w (by rw [zd];omega) (by decide) (ascii_of_all (by decide))
theorem QT (s:List UInt8) (hs:s.length≤2000000) (w:World) {b:Bool} (H:Hid (Ck.modeR s=b)):Calls Tryz.prog 96 #[.string (bs s)] w fun e w'=>e=.returned (.bool b)∧Below w.heap.size w w':=by
 obtain ⟨t,ht⟩:∃ t,Hid (Lib.trimS s [48,49,50,51,52,53,54,55]=t):=⟨_,hY rfl⟩
 have hsz:(bs s).size≤2000000:=by rw [zd];exact hs
 obtain ⟨b1,e1⟩:∃ b,(bs s).toList.isEmpty=b:=⟨_,rfl⟩
 obtain ⟨b3,e3⟩:∃ b,decide (((bs s).size:Int)≤4)=b:=⟨_,rfl⟩
 obtain ⟨b4,e4⟩:∃ b,(bs t).toList.isEmpty=b:=⟨_,rfl⟩
 have HF:Hid (b=(!b1&&b3&&b4)):=hY (by
  have h1:s.isEmpty=b1:=by rw [←e1,zh]
  have h3:decide (s.length≤4)=b3:=by rw [←e3,zd,decide_eq_decide];omega
  have h4:decide (t=[])=b4:=by rw [←e4,zh];cases t <;> rfl
  rw [←H.out,←Ck.mode_same,ht.out,h1,h3,h4])
 clear H;cases b1 with
 | true =>go_enter Tryz.func96,Tryz.ntmps96;go_wp2_with fail;go_ret;exact ⟨by rw [HF.out];rfl,Ja _ _⟩
 | false =>
  cases b3 with
  | false =>go_enter Tryz.func96,Tryz.ntmps96;go_wp2_with fail;go_ret;exact ⟨by rw [HF.out];rfl,Ja _ _⟩
  | true =>
   cases b4 <;> (
    go_enter Tryz.func96,Tryz.ntmps96;go_wp2_with fail;refine (Wx s _ hs ht).mono ?_;rintro e w1 ⟨rfl,p1⟩;go_wp2_with fail;go_ret;exact ⟨by rw [HF.out];rfl,p1⟩)
end Go.Proofs.YtdaejggcjjdhkaaGreatDoor
namespace Go.Proofs.YtdaejggcjjdhkaaGreatDoor
open Go Go.RowKit Go.Shelf
def Tryz.lays99_ren : Go.Shelf.Ren := ⟨fun | 99 => 98 | 206 => 137 | n => n, fun | 9 => 9 | 4 => 4 | 3 => 3 | n => n, fun | n => n⟩
theorem Tryz.lays99 : Go.Proofs.Lays.n99 Tryz.prog Tryz.lays99_ren := {
  mixed := by kernel_rfl
  f99 := Tryz.func98.trans (congrArg some (by kernel_rfl))
  f206 := Tryz.func137.trans (congrArg some (by kernel_rfl))
  t3 := Tryz.underlying3
  a3 := Tryz.isAgg3
  z3 := Tryz.sizeOf3
  v3 := Tryz.zeroValue3
  t4 := Tryz.underlying4
  a4 := Tryz.isAgg4
  z4 := Tryz.sizeOf4
  v4 := Tryz.zeroValue4
  t9 := Tryz.underlying9
  a9 := Tryz.isAgg9
  z9 := Tryz.sizeOf9
  v9 := Tryz.zeroValue9 }
theorem yG (s:ByteArray) (a b:Nat) (ai bi:Int) (ha:ai=(a:Int)) (hb:bi=(b:Int)) (hab:a≤b) (hbs:b≤s.size):∀ wx,(Instr.slice 9 (.string s) (some (.int .i64 ai)) (some (.int .i64 bi)) none).run Tryz.prog wx=.ok (.string (s.extract a b)) wx:=by subst ha hb;intro wx;rw [run_slice_string _ _ _ _ _ _ _ Tryz.underlying9 (by omega) (by omega) (by omega)];simp
theorem jz (s:ByteArray) (b:Nat) (bi:Int) (hb:bi=(b:Int)) (hbs:b≤s.size):∀ wx,(Instr.slice 9 (.string s) none (some (.int .i64 bi)) none).run Tryz.prog wx=.ok (.string (s.extract 0 b)) wx:=by subst hb;intro wx;rw [run_slice_string_h (ht:=Tryz.underlying9) (h0:=by omega) (h2:=by omega)];simp
theorem jA (s r:ByteArray) (a:Nat) (ai:Int) (ha:ai=(a:Int)) (has:a≤s.size) (hr:s.extract a s.size=r):∀ wx,(Instr.slice 9 (.string s) (some (.int .i64 ai)) none none).run Tryz.prog wx=.ok (.string r) wx:=by subst ha hr;intro wx;rw [run_slice_string_l (ht:=Tryz.underlying9) (h0:=by omega) (h1:=by omega)];simp
theorem Z8 (s:ByteArray) (a b:Nat):s.extract a b=bs (((bl s).drop a).take (b - a)):=by rw [←Zq,Ym]
theorem QF (s:ByteArray) (i j:Nat) (hij:i≤j) (hj:j≤s.size):∀ wx,(Instr.slice 9 (.string s) (some (.int .i64 (i:Int))) (some (.int .i64 (j:Int))) none).run Tryz.prog wx=.ok (.string (bs (((bl s).drop i).take (j - i)))) wx:=by rw [←Z8];exact yG s i j (i:Int) (j:Int) rfl rfl hij hj
theorem QG (l:List UInt8) (i j:Nat) (hij:i≤j) (hj:j≤l.length):∀ wx,(Instr.slice 9 (.string (bs l)) (some (.int .i64 (i:Int))) (some (.int .i64 (j:Int))) none).run Tryz.prog wx=.ok (.string (bs ((l.drop i).take (j - i)))) wx:=
 QF (bs l) i j hij (by rw [zd];exact hj)
theorem YR (l:List UInt8) (j:Nat) (ji:Int) (hji:ji=(j:Int)) (hj:j≤l.length):∀ wx,(Instr.slice 9 (.string (bs l)) none (some (.int .i64 ji)) none).run Tryz.prog wx=.ok (.string (bs (l.take j))) wx:=by have h:=jz (bs l) j ji hji (by rw [zd];exact hj);rw [Z8,Zh,Jw,Nat.sub_zero] at h;exact h
theorem z9 (l:List UInt8) (i:Nat) (ii:Int) (hii:ii=(i:Int)) (hi:i≤l.length):∀ wx,(Instr.slice 9 (.string (bs l)) (some (.int .i64 ii)) none none).run Tryz.prog wx=.ok (.string (bs (l.drop i))) wx:=
 jA (bs l) (bs (l.drop i)) i ii hii (by rw [zd];exact hi) (by rw [Z8,Zh,List.take_of_length_le (by rw [Jn,zd];exact Jd _)])
theorem bl_at (s:ByteArray) (k:Nat) (h:k<s.size):(bl s)[k]?=some s[k]:=by
 have h2:k<(bl s).length:=by rw [Qi];exact h
 rw [Jk h2];rfl
theorem yy (l:List UInt8) (k:Nat) (h:k<(bs l).size):l[k]?=some (bs l)[k]:=by
 have:=bl_at (bs l) k h
 rwa [Zh] at this
theorem zK (l p:List UInt8) (w:World) {b:Bool} (H:Hid (p.isPrefixOf l=b)):Calls Tryz.prog 98 #[.string (bs l),.string (bs p)] w fun e w'=>e=.returned (.bool b)∧w=w':=by refine (Any.strings_HasPrefix Tryz.lays99 (bs l) (bs p) w).mono ?_;rintro e w' ⟨rfl,h⟩;rw [←H.out];exact ⟨rfl,h.symm⟩
end Go.Proofs.YtdaejggcjjdhkaaGreatDoor
namespace Go.Proofs.YtdaejggcjjdhkaaGreatDoor
open Go Go.RowKit Go.Shelf
def Tryz.lays101_ren : Go.Shelf.Ren := ⟨fun | 101 => 138 | 208 => 161 | 206 => 137 | n => n, fun | 9 => 9 | 4 => 4 | 3 => 3 | n => n, fun | n => n⟩
theorem Tryz.lays101 : Go.Proofs.Lays.n101 Tryz.prog Tryz.lays101_ren := {
  mixed := by kernel_rfl
  f101 := Tryz.func138.trans (congrArg some (by kernel_rfl))
  f206 := Tryz.func137.trans (congrArg some (by kernel_rfl))
  f208 := Tryz.func161.trans (congrArg some (by kernel_rfl))
  t3 := Tryz.underlying3
  a3 := Tryz.isAgg3
  z3 := Tryz.sizeOf3
  v3 := Tryz.zeroValue3
  t4 := Tryz.underlying4
  a4 := Tryz.isAgg4
  z4 := Tryz.sizeOf4
  v4 := Tryz.zeroValue4
  t9 := Tryz.underlying9
  a9 := Tryz.isAgg9
  z9 := Tryz.sizeOf9
  v9 := Tryz.zeroValue9 }
theorem Ys (l p:List UInt8) (w:World) {t:List UInt8} (H:Hid (Lib.trimPrefix l p=t)):Calls Tryz.prog 138 #[.string (bs l),.string (bs p)] w fun e w'=>e=.returned (.string (bs t))∧w=w':=by refine (Any.strings_TrimPrefix Tryz.lays101 (bs l) (bs p) w).mono ?_;rintro e w' ⟨rfl,h⟩;rw [←H.out];exact ⟨rfl,h.symm⟩
theorem yY (c k:UInt8):((c.toNat:Int)==(k.toNat:Int))=(c==k):=by have:=zO c k;rw [bne] at this;cases h:((c.toNat:Int)==(k.toNat:Int)) <;> cases h2:(c==k) <;> simp_all
namespace Ck
def opQ (u:List UInt8):Bool:=decide (2≤u.length)&&(u.head?==some 34||u.head?==some 39)&&u.getLast?==u.head?
def opT (u:List UInt8):List UInt8:=if opQ u then (u.drop 1).dropLast else u
def opU (w:List UInt8):List UInt8:=if w.head?=some 45 then w.drop 1 else w
def opOk (t:List UInt8):Bool:=ofL t [95] true&&decide (t.length≤96)
theorem opens_eq (w:List UInt8):opensL w=if opOk (opT (opU w)) then some (opT (opU w),opQ (opU w)) else none:=by
 have e:∀ t:List UInt8,(t.all (fun c=>Ex.letter c||digit c)∧1≤t.length∧t.length≤96)↔opOk t=true:=fun t=>by
  have e1:∀ d:UInt8,(small d||digit d||true&&big d||([95]:List UInt8).contains d)=(Ex.letter d||digit d):=fun d=>by rw [has1];unfold Ex.letter;cases small d <;> cases digit d <;> cases big d <;> cases (d==95) <;> rfl
  unfold opOk ofL;rw [show (fun d:UInt8=>small d||digit d||true&&big d||([95]:List UInt8).contains d)=fun d=>Ex.letter d||digit d from funext e1];simp only [Jy,Jj,Bool.not_eq_true',List.isEmpty_eq_false_iff];constructor
  · rintro ⟨h1,h2,h3⟩;exact ⟨⟨h1,List.length_pos_iff.1 h2⟩,h3⟩
  · rintro ⟨⟨h1,h2⟩,h3⟩;exact ⟨h1,List.length_pos_iff.2 h2,h3⟩
 have:=e (opT (opU w));have key:opensL w=if (opT (opU w)).all (fun c=>Ex.letter c||digit c)∧1≤(opT (opU w)).length∧(opT (opU w)).length≤96 then some (opT (opU w),opQ (opU w)) else none:=rfl
 rw [key]
 by_cases h:opOk (opT (opU w))=true
 · rw [if_pos h,if_pos (this.2 h)]
 · rw [if_neg h,if_neg (fun h2=>h (this.1 h2))]
theorem trim_dash (w:List UInt8):Lib.trimPrefix w [45]=opU w:=by
 unfold Lib.trimPrefix opU Lib.hasPrefix;cases w with
 | nil=>rfl
 | cons c r =>
  by_cases h:c=45
  · subst h;rfl
  · have h1:(45==c)=false:=by rw [Jr];exact fun e=>h e.symm
    have h2:¬ (some c=some (45:UInt8)):=fun e=>h (Jc e);rw [List.head?_cons,if_neg h2];simp [List.isPrefixOf,h1]
theorem trim_open {w:List UInt8} (h:opening w=true):Lib.trimPrefix w [60,60]=w.drop 2:=by
 unfold opening at h;rw [Jx] at h;unfold Lib.trimPrefix Lib.hasPrefix;have:([60,60]:List UInt8).isPrefixOf w=true:=by rw [List.isPrefixOf_iff_prefix,←h];exact List.take_prefix 2 w
 rw [this];rfl
end Ck
theorem UX (s u:List UInt8) (w:World) {s1:List UInt8} (H1:Hid (Lib.trimPrefix s [60,60]=s1)) (H2:Hid (Lib.trimPrefix s1 [45]=u)) (hul:u.length≤2000000) {t:List UInt8} {q ok:Bool} (HT:Hid (Ck.opT u=t)) (HQ:Hid (Ck.opQ u=q)) (HO:Hid (Ck.opOk t=ok)):
  Calls Tryz.prog 99 #[.string (bs s)] w fun e w'=>e=.returned (.tuple #[.string (bs t),.bool q,.bool ok])∧Below w.heap.size w w':=by
 have hsz:(bs u).size≤2000000:=by rw [zd];exact hul
 have HZ:Hid ((bs u).size=u.length):=hY (zd u);go_enter Tryz.func99,Tryz.ntmps99;go_wp2_with fail;refine (Ys s [60,60] _ H1).mono ?_;rintro e w1 ⟨rfl,rfl⟩;go_wp2_with fail;refine (Ys s1 [45] _ H2).mono ?_;rintro e w1 ⟨rfl,rfl⟩;go_upto_region 3 with fail;go_cut [31] (fun s31 wx=>s31=.bool q∧∃ n,w.drewN n=wx)
 case first =>
  rcases Jh u.length 2 with h2 | h2
  · have n0:decide ((2:Int)≤((bs u).size:Int))=false:=by have:=HZ.out;rw [Ka];omega
    have HF:Hid (q=false):=hY (by rw [←HQ.out,Ck.opQ,decide_eq_false (by omega)];rfl);go_quiet (fail);go_wp2_with fail;go_meet;exact ⟨by rw [HF.out],_,rfl⟩
  · obtain ⟨m,hm⟩:∃ m,u.length=m+1:=⟨u.length - 1,by omega⟩
    have n0:decide ((2:Int)≤((bs u).size:Int))=true:=by have:=HZ.out;rw [Jj];omega
    have n1:0<(bs u).size:=by have:=HZ.out;omega
    have n2:(0:Int)<((bs u).size:Int):=by omega
    have z3:IntKind.i64.wrap (((bs u).size:Int) - 1)=(m:Int):=by have:=HZ.out;rw [IntWalk.i64_in _ (by omega)];omega
    have z4:m<(bs u).size:=by have:=HZ.out;omega
    have z5:(m:Int)<((bs u).size:Int):=by omega
    have z6:(0:Int)≤(m:Int):=by omega
    obtain ⟨c,hc⟩:∃ c,(bs u)[0]'n1=c:=⟨_,rfl⟩
    obtain ⟨d,hd⟩:∃ d,(bs u)[m]'z4=d:=⟨_,rfl⟩
    have hcb:c.toNat<256:=Jm _;have hdb:d.toNat<256:=Jm _;obtain ⟨x1,e1⟩:∃ x,((c.toNat:Int)==34)=x:=⟨_,rfl⟩
    obtain ⟨x2,e2⟩:∃ x,((c.toNat:Int)==39)=x:=⟨_,rfl⟩
    obtain ⟨x3,e3⟩:∃ x,((d.toNat:Int)==(c.toNat:Int))=x:=⟨_,rfl⟩
    have HF:Hid (q=((x1||x2)&&x3)):=hY (by
     have a1:(c==34)=x1:=by rw [←e1,show (34:Int)=(((34:UInt8).toNat:Nat):Int) from rfl,yY]
     have a2:(c==39)=x2:=by rw [←e2,show (39:Int)=(((39:UInt8).toNat:Nat):Int) from rfl,yY]
     have a3:(d==c)=x3:=by rw [←e3,yY]
     have h0:u.head?=some c:=by rw [List.head?_eq_getElem?];exact (yy u 0 n1).trans (by rw [hc])
     have hl:u.getLast?=some d:=by rw [List.getLast?_eq_getElem?,hm,Nat.add_sub_cancel];exact (yy u m z4).trans (by rw [hd])
     have so:∀ a b:UInt8,(some a==some b)=(a==b):=fun a b=>rfl;rw [←HQ.out,Ck.opQ,decide_eq_true h2,h0,hl,so,so,so,a1,a2,a3,Bool.true_and])
    cases x1 <;> cases x2 <;> cases x3 <;> (
     go_quiet (fail);go_wp2_with fail;go_meet;exact ⟨by rw [HF.out];rfl,_,rfl⟩)
 case rest =>
  obtain ⟨rfl,nq,rfl⟩:=hcut;obtain ⟨o,ho⟩:∃ o,Hid (Ck.ofL t [95] true=o):=⟨_,hY rfl⟩
  have htl:t.length≤u.length:=by
   rw [←HT.out,Ck.opT]
   split
   · rw [List.length_dropLast,Jn];omega
   · omega
  have htz:(bs t).size≤2000000:=by rw [zd];omega
  obtain ⟨b3,e3⟩:∃ b,decide (((bs t).size:Int)≤96)=b:=⟨_,rfl⟩
  have HF:Hid (ok=(o&&b3)):=hY (by
   have h3:decide (t.length≤96)=b3:=by rw [←e3,zd,decide_eq_decide];omega
   rw [←HO.out,Ck.opOk,ho.out,h3])
  cases q with
  | false =>
   have ht:u=t:=by have:=HT.out;rw [Ck.opT,HQ.out] at this;exact this
   subst ht;cases o <;> cases b3 <;> (
    go_wp2_with fail;refine (Uq u hul _ ho).mono ?_;rintro e w1 ⟨rfl,rfl⟩;go_wp2_with fail;go_ret3;exact ⟨by rw [HF.out];rfl,zj (Ja _ _) _⟩)
  | true =>
   have hu2:2≤u.length:=by have h:=HQ.out;rw [Ck.opQ,Jy,Jy,Jj] at h;exact h.1.1
   have ht:(u.drop 1).dropLast=t:=by have:=HT.out;rw [Ck.opT,HQ.out] at this;exact this
   obtain ⟨m,hm⟩:∃ m,u.length=m+1:=⟨u.length - 1,by omega⟩
   have z3:IntKind.i64.wrap (((bs u).size:Int) - 1)=(m:Int):=by have:=HZ.out;rw [IntWalk.i64_in _ (by omega)];omega
   have sl:∀ wx,(Instr.slice 9 (.string (bs u)) (some (.int .i64 1)) (some (.int .i64 (m:Int))) none).run Tryz.prog wx=.ok (.string (bs t)) wx:=by
    have h:=yG (bs u) 1 m 1 (m:Int) rfl rfl (by omega) (by rw [zd];omega);rw [Z8,Zh] at h;have e4:(u.drop 1).take (m - 1)=t:=by rw [←ht,List.dropLast_eq_take,Jn,hm,Nat.add_sub_cancel]
    rw [e4] at h;exact h
   clear ht;cases o <;> cases b3 <;> (
    go_wp2_with fail;refine (Uq t (by omega) _ ho).mono ?_;rintro e w1 ⟨rfl,rfl⟩;go_wp2_with fail;go_ret3;exact ⟨by rw [HF.out];rfl,zj (Ja _ _) _⟩)
end Go.Proofs.YtdaejggcjjdhkaaGreatDoor
