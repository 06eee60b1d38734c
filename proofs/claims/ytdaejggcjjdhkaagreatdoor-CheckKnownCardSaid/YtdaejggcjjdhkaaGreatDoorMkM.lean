/- strataref18: pairs, Opens, words, walked. -/
import Derived.Test.YtdaejggcjjdhkaaGreatDoorMkJ
import Derived.Test.YtdaejggcjjdhkaaGreatDoorRelyU
import Derived.Test.YtdaejggcjjdhkaaGreatDoorMkB
import Derived.Test.YtdaejggcjjdhkaaGreatDoorMkC
import Derived.Deep.DeepCutAuto
set_option maxHeartbeats 4000000
set_option maxRecDepth 100000
namespace Go.Proofs.YtdaejggcjjdhkaaGreatDoor
open Go Go.RowKit
theorem WS (m:SM) (w:World) (hok:m.Ok w) (hn:m.s.words.length+m.s.exec.length+m.s.pairs.length+m.s.docs.length≤1050000) (hL:∀ t∈Ck.textsL m.s,t.length≤1050000) (e:UInt8) {x:Nat} (H:Hid (Ck.pairsL m.s.op e m.s.pairs=x)):Calls Tryz.prog 85 #[.agg #[.int .i64 m.s.op,.int .i64 m.s.line,.string (bs m.s.from_),.string (bs m.s.mode),.bool m.s.force,m.vp,.bool m.s.bare,m.vw,m.vd,m.ve],.int .u8 (e.toNat:Int)] w fun r w'=>r=.returned (.int .i64 (x:Int))∧Below w.heap.size w w':=by
 obtain ⟨s,vp,vw,vd,ve⟩:=m;have hcp:SlA w vp s.pairs.length (yV s.pairs):=hok.cp;have hcw:SlA w vw s.words.length (sc s.words):=hok.cw;have hcd:SlA w vd s.docs.length (yI s.docs):=hok.cd;have hce:SlA w ve s.exec.length (sc s.exec):=hok.ce;dsimp only at hn hL H ⊢;clear hok;obtain ⟨Ap,kp,rfl⟩:=hcp.form;obtain ⟨Aw,kw,rfl⟩:=hcw.form;obtain ⟨Ad,kd,rfl⟩:=hcd.form;obtain ⟨Ae,ke,rfl⟩:=hce.form;have hal:=(Ja w.heap.size w).alloc (Jd _) (.cells #[.int .i64 s.op,.int .i64 s.line,.string (bs s.from_),.string (bs s.mode),.bool s.force,.slice Ap s.pairs.length kp,.bool s.bare,.slice Aw s.words.length kw,.slice Ad s.docs.length kd,.slice Ae s.exec.length ke] 41);have hk:=Blk.new w 41 #[.int .i64 s.op,.int .i64 s.line,.string (bs s.from_),.string (bs s.mode),.bool s.force,.slice Ap s.pairs.length kp,.bool s.bare,.slice Aw s.words.length kw,.slice Ad s.docs.length kd,.slice Ae s.exec.length ke];obtain ⟨w1,hw1⟩:∃ x,w.alloc (.cells #[.int .i64 s.op,.int .i64 s.line,.string (bs s.from_),.string (bs s.mode),.bool s.force,.slice Ap s.pairs.length kp,.bool s.bare,.slice Aw s.words.length kw,.slice Ad s.docs.length kd,.slice Ae s.exec.length ke] 41)=x:=⟨_,rfl⟩
 rw [hw1] at hal hk;have HW1:=hY hw1;have HAL:=hY hal;have HK:=hY hk;have HP1:=hY (hcp.new hal);have HV1:=hY (hcw.new hal);have HD1:=hY (hcd.new hal);have HE1:=hY (hce.new hal);have HL:=hY hL;clear hw1 hal hk hcp hcw hcd hce hL;obtain ⟨x3,e3⟩:∃ b,(s.op==3)=b:=⟨_,rfl⟩
 have e3n:(s.op != 3)=!x3:=by rw [bne,e3]
 have heb:e.toNat<256:=Jm _;have H0:Hid (Ck.pairsL s.op e (s.pairs.drop 0)=x):=hY (by rw [Jw];exact H.out);have HLK:Hid (∀ p∈s.pairs,p.key.length≤1050000∧p.val.length≤1050000):=hY (fun p hp=>⟨HL.out _ (by simp only [Ck.textsL,Km,List.mem_flatMap];exact .inl (.inr ⟨p,hp,by simp⟩)),HL.out _ (by simp only [Ck.textsL,Km,List.mem_flatMap];exact .inl (.inr ⟨p,hp,by simp⟩))⟩);have hpn:s.pairs.length≤1050000:=by omega
 clear H HL;go_enter Tryz.func85,Tryz.ntmps85;go_upto_region 1 with fail;rw [HW1.out];clear HW1;go_wp2_with fail;go_loopw [5] (fun t5 wr=>∃ i:Nat,i≤s.pairs.length∧t5=.int .i64 (i:Int)∧Hid (Ck.pairsL s.op e (s.pairs.drop i)=x)∧Hid (Below w1.heap.size w1 wr)) (fun t5 _=>s.pairs.length - (intOf t5).toNat)
 case atStart=>exact ⟨0,by omega,rfl,H0,hY (Ja _ _)⟩
 case round =>
  clear H0;rename World=>wr;obtain ⟨i,hi,rfl,HR,HB⟩:=hrel;have j0:(0:Int)≤(i:Int):=by omega
  have HKr:=hY (HK.out.below HB.out HK.out.lt);have b0:wr.cell? ⟨w.heap.size,0,none⟩=some (Value.int .i64 s.op):=HKr.out.cell 0;have b5:wr.cell? ⟨w.heap.size,5,none⟩=some (Value.slice Ap s.pairs.length kp):=HKr.out.cell 5;have HBW:=hY (za HAL.out HB.out HAL.out.size);rcases Jh i s.pairs.length with hin | hin
  · have i0:decide ((i:Int)<(s.pairs.length:Int))=true:=dT (by omega);have i1:(i:Int)<(s.pairs.length:Int):=by omega
    obtain ⟨g,o,c,hv,c0,c1⟩:=ZB (HP1.out.new HB.out) hin;injection hv with hA _ hcc;subst hA hcc;have hR:=HR.out;rw [Js hin] at hR;have hlk:=HLK.out _ (Jl hin);obtain ⟨P,hP⟩:∃ P,s.pairs[i]=P:=⟨_,rfl⟩
    rw [hP] at hR c0 c1 hlk;obtain ⟨key,val⟩:=P;dsimp only at c0 c1 hlk;obtain ⟨hkl,hvl⟩:=hlk;obtain ⟨lb,hlb⟩:∃ b,Hid (Ck.labelR key=b):=⟨_,hY rfl⟩
    obtain ⟨vb,hvb⟩:∃ b,Hid (Ck.varR key=b):=⟨_,hY rfl⟩
    obtain ⟨n,hn2⟩:∃ n,Hid (Ck.wordL e val=n):=⟨_,hY rfl⟩
    obtain ⟨bad,hbad⟩:∃ b,Hid ((x3&&!lb||!x3&&!vb)=b):=⟨_,hY rfl⟩
    have HR2:Hid (x=if bad then 8 else if n≠0 then n else Ck.pairsL s.op e (s.pairs.drop (i+1))):=hY (by
     rw [←hR];show (if (if s.op=3 then Ck.labelR key else Ck.varR key)=false then 8 else if Ck.wordL e val≠0 then Ck.wordL e val else Ck.pairsL s.op e (s.pairs.drop (i+1)))=_;rw [hlb.out,hvb.out,hn2.out,←hbad.out];cases x3 with
     | true=>rw [if_pos (Jx.1 e3)];cases lb <;> rfl
     | false=>rw [if_neg (Jr.1 e3)];cases vb <;> rfl)
    clear hR hP HR;go_upto_region 5 with fail;go_cut [38] from 21 to 37 (fun sy wx=>sy=.bool bad∧wr=wx)
    case first =>
     as_aux_lemma =>
     cases x3 with
     | true =>
      go_wp2_with fail;refine (W5 key (by omega) wr hlb).mono ?_;rintro a wv ⟨rfl,rfl⟩;cases lb <;> (
       go_wp2_with fail;go_meet;exact ⟨by rw [←hbad.out];rfl,by trivial⟩)
     | false =>
      go_wp2_with fail;refine (YG key (by omega) wr hvb).mono ?_;rintro a wv ⟨rfl,rfl⟩;cases vb <;> (
       go_wp2_with fail;go_meet;exact ⟨by rw [←hbad.out];rfl,by trivial⟩)
    case rest =>
     obtain ⟨rfl,rfl⟩:=hcut;clear hbad;cases bad with
     | true =>go_wp2_with fail;go_ret;exact ⟨by rw [HR2.out];rfl,HBW.out⟩
     | false =>
      have HWD:=hY (ZX val (by omega) e wr hn2);go_wp2_with fail;refine HWD.out.mono ?_;rintro a w5 ⟨rfl,hb5⟩;have HB5:=hY (HB.out.trans (hb5.mono HB.out.size));have HBW5:=hY (za HBW.out hb5 HBW.out.size);clear hb5 HWD c0 c1 b0 b5;rcases Ju n with hn0 | hn0
      · subst hn0;go_wp2_with fail;go_roundw
        case rel=>exact ⟨i+1,by omega,by go_num,hY (by rw [HR2.out];rfl),HB5⟩
        case measure=>simp [intOf];omega
      · have k0:((n:Int)==0)=false:=bF (by omega);have k1:(n==0)=false:=bF (by omega);have k2:((n:Int) != 0)=true:=by rw [bne,k0];rfl
        have HF:Hid (x=n):=hY (by rw [HR2.out];show (if n≠0 then n else _)=n;rw [if_pos (by omega)]);go_wp2_with fail;go_ret;exact ⟨by rw [HF.out];rfl,HBW5.out⟩
  · have i0:decide ((i:Int)<(s.pairs.length:Int))=false:=dF (by omega);have e0n:decide (i<s.pairs.length)=false:=dF (by omega);have HF:Hid (x=0):=hY (by rw [←HR.out,Jt hin];rfl);go_wp2_with fail;go_ret;exact ⟨by rw [HF.out];rfl,HBW.out⟩
def VJ (c:UInt8):Bool:=Ex.letter c||Ck.digit c
theorem jF (t:List UInt8):Ck.opOk t=(t.all VJ&&(decide (1≤t.length)&&decide (t.length≤96))):=by
 have e1:∀ d:UInt8,(Ck.small d||Ck.digit d||true&&Ck.big d||([95]:List UInt8).contains d)=VJ d:=fun d=>by rw [Ck.has1];unfold VJ Ex.letter;cases Ck.small d <;> cases Ck.digit d <;> cases Ck.big d <;> cases (d==95) <;> rfl
 unfold Ck.opOk Ck.ofL;rw [show (fun d:UInt8=>Ck.small d||Ck.digit d||true&&Ck.big d||([95]:List UInt8).contains d)=VJ from funext e1];have e2:(!t.isEmpty)=decide (1≤t.length):=by cases t <;> simp
 rw [←e2];cases t.all VJ <;> cases t.isEmpty <;> cases decide (t.length≤96) <;> rfl
theorem Uo {s:List UInt8} (h:Ck.opening s=true):2≤s.length∧s.take 2=[60,60]:=by unfold Ck.opening at h;rw [Jx] at h;have:=congrArg List.length h;rw [Kt] at this;exact ⟨by have e:([60,60]:List UInt8).length=2:=rfl;omega,h⟩
theorem WV (s:List UInt8) (hs:s.length≤2000000) (ho:Ck.opening s=true) (w:World) {t:List UInt8} {q ok:Bool} (HT:Hid (Ck.opT (Ck.opU (s.drop 2))=t)) (HQ:Hid (Ck.opQ (Ck.opU (s.drop 2))=q)) (HO:Hid (Ck.opOk t=ok)):
  Calls Tryz.prog 126 #[.string (bs s)] w fun r w'=>(∃ t' q',r=.returned (.tuple #[.string (bs t'),.bool q',.bool ok])∧(ok=true→t'=t∧q'=q))∧Below w.heap.size w w':=by
 obtain ⟨h2,h3⟩:=Uo ho;obtain ⟨v,hv⟩:∃ v,s.drop 2=v:=⟨_,rfl⟩
 obtain ⟨u,hu⟩:∃ u,Ck.opU v=u:=⟨_,rfl⟩
 rw [hv,hu] at HT HQ;have hvl:v.length+2=s.length:=by rw [←hv,Jn];omega
 have hul:u.length≤v.length:=by
  rw [←hu,Ck.opU];split
  · rw [Jn];omega
  · omega
 have hzs:(bs s).size=s.length:=zd s;have hzv:(bs v).size=v.length:=zd v;have HZU:Hid ((bs u).size=u.length):=hY (zd u);have i0:decide (((bs s).size:Int)<2)=false:=dF (by omega);have i0n:decide ((bs s).size<2)=false:=dF (by omega);have s1:∀ wx,(Instr.slice 9 (.string (bs s)) none (some (.int .i64 2)) none).run Tryz.prog wx=.ok (.string (bs [60,60])) wx:=by
  have:=YR s 2 2 rfl h2
  rwa [h3] at this
 have s2:∀ wx,(Instr.slice 9 (.string (bs s)) (some (.int .i64 2)) none none).run Tryz.prog wx=.ok (.string (bs v)) wx:=by
  have:=z9 s 2 2 rfl h2
  rwa [hv] at this
 have hzs2:(bs s).size≤2000000:=by omega
 have HZV:=hY hzv;have e60:((bs [60,60]).toList==[60,60])=true:=by rw [zh];rfl
 clear ho h3 hv hzs hzv;go_enter Tryz.func126,Tryz.ntmps126;go_upto_region 4 with fail;have hzv:=HZV.out;clear i0 i0n s1 s2 hzs2 HZV e60;obtain ⟨zv,ezv⟩:∃ b,(bs v).toList.isEmpty=b:=⟨_,rfl⟩
 obtain ⟨da,hda⟩:∃ b,Hid (decide (v.head?=some 45)=b):=⟨_,hY rfl⟩
 go_cut [23] from 17 to 22 (fun sy wx=>sy=.bool da∧w=wx)
 case first =>
  as_aux_lemma =>
  cases v with
  | nil =>
   have hzz:zv=true:=by rw [←ezv,zh];rfl
   subst hzz;have HF:Hid (da=false):=hY (by rw [←hda.out];rfl);go_wp2_with fail;go_meet;exact ⟨by rw [HF.out],by trivial⟩
  | cons c r =>
   have hzz:zv=false:=by rw [←ezv,zh];rfl
   subst hzz;have q1:0<(bs (c::r)).size:=by rw [hzv];simp
   have q2:(0:Int)<((bs (c::r)).size:Int):=by omega
   have q3:(bs (c::r))[0]'q1=c:=by have:=yy (c::r) 0 q1;exact (Jc this).symm
   have hcb:c.toNat<256:=Jm _;obtain ⟨x,ex⟩:∃ x,((c.toNat:Int)==45)=x:=⟨_,rfl⟩
   have HF:Hid (da=x):=hY (by rw [←hda.out,←ex,show (45:Int)=(((45:UInt8).toNat:Nat):Int) from rfl,yY];rw [List.head?_cons,Jz,Jj,Jx];exact ⟨fun h=>Jc h,fun h=>congrArg _ h⟩);clear hzv;cases x <;> (
    go_wp2_with fail;go_meet;exact ⟨by rw [HF.out],by trivial⟩)
 case rest =>
  obtain ⟨rfl,rfl⟩:=hcut;go_upto_if 23 with fail;go_cut [0] from 24 to 25 (fun sy wx=>sy=.string (bs u)∧w=wx)
  case first =>
   as_aux_lemma =>
   cases da with
   | true =>
    have hd:=of_decide_eq_true hda.out;have hul2:v.drop 1=u:=by rw [←hu,Ck.opU,if_pos hd]
    have hv1:1≤v.length:=by
     cases v with
     | nil=>cases hd
     | cons _ _=>simp
    have s1:∀ wx,(Instr.slice 9 (.string (bs v)) (some (.int .i64 1)) none none).run Tryz.prog wx=.ok (.string (bs u)) wx:=by
     have:=z9 v 1 1 rfl hv1
     rwa [hul2] at this
    have hz1:(1:Int)≤((bs v).size:Int):=by omega
    clear hzv;go_wp2_with fail;go_meet;exact ⟨rfl,by trivial⟩
   | false =>
    have hd:=of_decide_eq_false hda.out;have hul2:v=u:=by rw [←hu,Ck.opU,if_neg hd]
    go_wp2_with fail;go_meet;exact ⟨by rw [←hul2],by trivial⟩
  case rest =>
   obtain ⟨rfl,rfl⟩:=hcut;clear ezv hda hu hzv;have hul9:u.length≤2000000:=by omega
   clear hul hvl;go_upto_region 6 with fail;go_cut [5] from 26 to 48 (fun s31 wx=>s31=.bool q∧∃ n,w.drewN n=wx)
   case first =>
    rcases Jh u.length 2 with h2 | h2
    · have n0:decide ((2:Int)≤((bs u).size:Int))=false:=by have:=HZU.out;rw [Ka];omega
      have HF:Hid (q=false):=hY (by rw [←HQ.out,Ck.opQ,decide_eq_false (by omega)];rfl);go_quiet (fail);go_wp2_with fail;go_meet;exact ⟨by rw [HF.out],_,rfl⟩
    · obtain ⟨m,hm⟩:∃ m,u.length=m+1:=⟨u.length - 1,by omega⟩
      have n0:decide ((2:Int)≤((bs u).size:Int))=true:=by have:=HZU.out;rw [Jj];omega
      have n1:0<(bs u).size:=by have:=HZU.out;omega
      have n2:(0:Int)<((bs u).size:Int):=by omega
      have z3:IntKind.i64.wrap (((bs u).size:Int) - 1)=(m:Int):=by have:=HZU.out;rw [IntWalk.i64_in _ (by omega)];omega
      have z4:m<(bs u).size:=by have:=HZU.out;omega
      have z5:(m:Int)<((bs u).size:Int):=by omega
      have z6:(0:Int)≤(m:Int):=by omega
      obtain ⟨c,hc⟩:∃ c,(bs u)[0]'n1=c:=⟨_,rfl⟩
      obtain ⟨d,hd⟩:∃ d,(bs u)[m]'z4=d:=⟨_,rfl⟩
      have hcb:c.toNat<256:=Jm _;have hdb:d.toNat<256:=Jm _;obtain ⟨x1,e1⟩:∃ x,((c.toNat:Int)==34)=x:=⟨_,rfl⟩
      obtain ⟨x2,e2⟩:∃ x,((c.toNat:Int)==39)=x:=⟨_,rfl⟩
      obtain ⟨x3,e3⟩:∃ x,((d.toNat:Int)==(c.toNat:Int))=x:=⟨_,rfl⟩
      have HF:Hid (q=((x1||x2)&&x3)):=hY (by
       have a1:(c==34)=x1:=by rw [←e1,show (34:Int)=(((34:UInt8).toNat:Nat):Int) from rfl,yY]
       have a2:(c==39)=x2:=by rw [←e2,show (39:Int)=(((39:UInt8).toNat:Nat):Int) from rfl,yY]
       have a3:(d==c)=x3:=by rw [←e3,yY]
       have h0:u.head?=some c:=by rw [List.head?_eq_getElem?];exact (yy u 0 n1).trans (by rw [hc])
       have hl:u.getLast?=some d:=by rw [List.getLast?_eq_getElem?,hm,Nat.add_sub_cancel];exact (yy u m z4).trans (by rw [hd])
       have so:∀ a b:UInt8,(some a==some b)=(a==b):=fun a b=>rfl;rw [←HQ.out,Ck.opQ,decide_eq_true h2,h0,hl,so,so,so,a1,a2,a3,Bool.true_and])
      cases x1 <;> cases x2 <;> cases x3 <;> (
       go_quiet (fail);go_wp2_with fail;go_meet;exact ⟨by rw [HF.out];rfl,_,rfl⟩)
   case rest =>
    obtain ⟨rfl,nq,rfl⟩:=hcut;have htl:t.length≤u.length:=by
     rw [←HT.out,Ck.opT]
     split
     · rw [List.length_dropLast,Jn];omega
     · omega
    go_upto_if 49 with fail;go_cut [0] from 50 to 54 (fun sy wx=>sy=.string (bs t)∧w.drewN nq=wx)
    case first =>
     as_aux_lemma =>
     cases q with
     | false =>
      have ht:u=t:=by have:=HT.out;rw [Ck.opT,HQ.out] at this;exact this
      go_wp2_with fail;go_meet;exact ⟨by rw [ht],by trivial⟩
     | true =>
      have hu2:2≤u.length:=by have h:=HQ.out;rw [Ck.opQ,Jy,Jy,Jj] at h;exact h.1.1
      have ht:(u.drop 1).dropLast=t:=by have:=HT.out;rw [Ck.opT,HQ.out] at this;exact this
      obtain ⟨m,hm⟩:∃ m,u.length=m+1:=⟨u.length - 1,by omega⟩
      have z3:IntKind.i64.wrap (((bs u).size:Int) - 1)=(m:Int):=by have:=HZU.out;rw [IntWalk.i64_in _ (by omega)];omega
      have sl:∀ wx,(Instr.slice 9 (.string (bs u)) (some (.int .i64 1)) (some (.int .i64 (m:Int))) none).run Tryz.prog wx=.ok (.string (bs t)) wx:=by
       have h:=yG (bs u) 1 m 1 (m:Int) rfl rfl (by omega) (by rw [zd];omega);rw [Z8,Zh] at h;have e4:(u.drop 1).take (m - 1)=t:=by rw [←ht,List.dropLast_eq_take,Jn,hm,Nat.add_sub_cancel]
       rw [e4] at h;exact h
      clear ht;go_wp2_with fail;go_meet;exact ⟨rfl,by trivial⟩
    case rest =>
     obtain ⟨rfl,rfl⟩:=hcut;have htl2:t.length≤2000000:=by omega
     have HOK:Hid (ok=(t.all VJ&&(decide (1≤t.length)&&decide (t.length≤96)))):=hY (by rw [←HO.out,jF]);have hzt:(bs t).size=t.length:=zd t;have HZT:=hY hzt;have hzt2:(bs t).size≤2000000:=by omega
     have H0:Hid ((t.take 0).all VJ=true):=hY rfl;have HB:=hY (zj (Ja w.heap.size w) nq);obtain ⟨w2,hw2⟩:∃ y,w.drewN nq=y:=⟨_,rfl⟩
     rw [hw2] at HB;rw [hw2];clear hw2 hzt HT HQ HO HZU htl h2 hul9;go_wp2_with fail;go_loopw [6] (fun t6 wr=>∃ i:Nat,i≤t.length∧t6=.int .i64 (i:Int)∧Hid ((t.take i).all VJ=true)∧w2=wr) (fun t6 _=>t.length - (intOf t6).toNat)
     case atStart=>exact ⟨0,by omega,rfl,H0,by trivial⟩
     case round =>
      clear H0;obtain ⟨i,hi,rfl,HR,rfl⟩:=hrel;have j0:(0:Int)≤(i:Int):=by omega
      rcases Jh i t.length with hin | hin
      · have hin2:i<(bs t).size:=by rw [HZT.out];exact hin
        have i0:decide ((i:Int)<((bs t).size:Int))=true:=dT (by omega);have i1:(i:Int)<((bs t).size:Int):=by omega
        obtain ⟨c,hc⟩:∃ c,(bs t)[i]'hin2=c:=⟨_,rfl⟩
        have HC:Hid (t[i]?=some c):=hY (by rw [yy t i hin2,hc]);have hcb:c.toNat<256:=Jm _;have HSN:Hid ((t.take (i+1)).all VJ=((t.take i).all VJ&&VJ c)):=hY (by rw [List.take_add_one,HC.out,List.all_append];simp);obtain ⟨bl,hbl⟩:∃ b,Hid ((Ck.small c||Ck.big c)=b):=⟨_,hY rfl⟩
        obtain ⟨bd,hbd⟩:∃ b,Hid (Ck.digit c=b):=⟨_,hY rfl⟩
        obtain ⟨bu,ebu⟩:∃ b,((c.toNat:Int)==95)=b:=⟨_,rfl⟩
        have ebn:((c.toNat:Int) != 95)=!bu:=by rw [bne,ebu]
        have HY:Hid (VJ c=(bl||bu||bd)):=hY (by
         have a1:(c==95)=bu:=by rw [←ebu,show (95:Int)=(((95:UInt8).toNat:Nat):Int) from rfl,yY]
         rw [VJ,Ex.letter,hbl.out,hbd.out,a1])
        obtain ⟨bad,hbad⟩:∃ b,Hid ((!bl&&!bd&&!bu)=b):=⟨_,hY rfl⟩
        have HYB:Hid (VJ c=!bad):=hY (by rw [HY.out,←hbad.out];cases bl <;> cases bd <;> cases bu <;> rfl);go_upto_region 12 with fail;go_cut [78] from 61 to 77 (fun sy wx=>sy=.bool bad∧w2=wx)
        case first =>
         as_aux_lemma =>
         go_wp2_with fail;refine (zX c w2 hbl).mono ?_;rintro a wv ⟨rfl,rfl⟩;cases bl with
         | true =>go_wp2_with fail;go_meet;exact ⟨by rw [←hbad.out];rfl,by trivial⟩
         | false =>
          go_wp2_with fail;refine (zL c w2 hbd).mono ?_;rintro a wv ⟨rfl,rfl⟩;cases bd with
          | true =>go_wp2_with fail;go_meet;exact ⟨by rw [←hbad.out];rfl,by trivial⟩
          | false =>
           cases bu <;> (
            go_wp2_with fail;go_meet;exact ⟨by rw [←hbad.out];rfl,by trivial⟩)
        case rest =>
         obtain ⟨rfl,rfl⟩:=hcut;cases bad with
         | true =>
          have HF:Hid (ok=false):=hY (by
           rw [HOK.out];have:t.all VJ=false:=by rw [←Bool.not_eq_true,List.all_eq_true];intro h;have h1:=h c (List.mem_of_getElem? HC.out);rw [HYB.out] at h1;cases h1
           rw [this];rfl)
          go_wp2_with fail;go_ret3;exact ⟨⟨[],false,by rw [HF.out];rfl,fun h=>by rw [HF.out] at h;cases h⟩,HB.out⟩
         | false =>
          go_wp2_with fail;go_roundw
          case rel=>exact ⟨i+1,by omega,by go_num,hY (by rw [HSN.out,HR.out,HYB.out];rfl),by trivial⟩
          case measure=>simp [intOf];omega
      · have i0:decide ((i:Int)<((bs t).size:Int))=false:=by rw [Ka];have:=HZT.out;omega
        have e0n:decide (i<(bs t).size)=false:=by rw [Ka];have:=HZT.out;omega
        obtain ⟨k1,e1⟩:∃ b,decide (1≤t.length)=b:=⟨_,rfl⟩
        obtain ⟨k2,e2⟩:∃ b,decide (t.length≤96)=b:=⟨_,rfl⟩
        have f1:decide ((1:Int)≤((bs t).size:Int))=k1:=by rw [←e1,decide_eq_decide];have:=HZT.out;omega
        have f2:decide (((bs t).size:Int)≤96)=k2:=by rw [←e2,decide_eq_decide];have:=HZT.out;omega
        have f1n:decide (1≤(bs t).size)=k1:=by rw [←e1,decide_eq_decide];have:=HZT.out;omega
        have f2n:decide ((bs t).size≤96)=k2:=by rw [←e2,decide_eq_decide];have:=HZT.out;omega
        have HF:Hid (ok=(k1&&k2)):=hY (by rw [HOK.out,←e1,←e2];have h:=HR.out;rw [List.take_of_length_le hin] at h;rw [h,Bool.true_and]);clear e1 e2;cases k1 <;> cases k2 <;> (
         go_wp2_with fail;go_ret3;exact ⟨⟨t,q,by rw [HF.out];rfl,fun _=>⟨rfl,rfl⟩⟩,HB.out⟩)
theorem Wt (m:SM) (w:World) (hok:m.Ok w) (hn:m.s.words.length+m.s.exec.length+m.s.pairs.length+m.s.docs.length≤1050000) (hL:∀ t∈Ck.textsL m.s,t.length≤1050000) (e:UInt8) {x:Nat} (H:Hid (Ck.bodyL m.s e=x)):Calls Tryz.prog 86 #[.agg #[.int .i64 m.s.op,.int .i64 m.s.line,.string (bs m.s.from_),.string (bs m.s.mode),.bool m.s.force,m.vp,.bool m.s.bare,m.vw,m.vd,m.ve],.int .u8 (e.toNat:Int)] w fun r w'=>r=.returned (.int .i64 (x:Int))∧Below w.heap.size w w':=by
 obtain ⟨s,vp,vw,vd,ve⟩:=m;have hcp:SlA w vp s.pairs.length (yV s.pairs):=hok.cp;have hcw:SlA w vw s.words.length (sc s.words):=hok.cw;have hcd:SlA w vd s.docs.length (yI s.docs):=hok.cd;have hce:SlA w ve s.exec.length (sc s.exec):=hok.ce;dsimp only at hn hL H ⊢;clear hok;obtain ⟨Ap,kp,rfl⟩:=hcp.form;obtain ⟨Aw,kw,rfl⟩:=hcw.form;obtain ⟨Ad,kd,rfl⟩:=hcd.form;obtain ⟨Ae,ke,rfl⟩:=hce.form;have hal:=(Ja w.heap.size w).alloc (Jd _) (.cells #[.int .i64 s.op,.int .i64 s.line,.string (bs s.from_),.string (bs s.mode),.bool s.force,.slice Ap s.pairs.length kp,.bool s.bare,.slice Aw s.words.length kw,.slice Ad s.docs.length kd,.slice Ae s.exec.length ke] 41);have hk:=Blk.new w 41 #[.int .i64 s.op,.int .i64 s.line,.string (bs s.from_),.string (bs s.mode),.bool s.force,.slice Ap s.pairs.length kp,.bool s.bare,.slice Aw s.words.length kw,.slice Ad s.docs.length kd,.slice Ae s.exec.length ke];obtain ⟨w1,hw1⟩:∃ x,w.alloc (.cells #[.int .i64 s.op,.int .i64 s.line,.string (bs s.from_),.string (bs s.mode),.bool s.force,.slice Ap s.pairs.length kp,.bool s.bare,.slice Aw s.words.length kw,.slice Ad s.docs.length kd,.slice Ae s.exec.length ke] 41)=x:=⟨_,rfl⟩
 rw [hw1] at hal hk;have HW1:=hY hw1;have HAL:=hY hal;have HK:=hY hk;have HP1:=hY (hcp.new hal);have HV1:=hY (hcw.new hal);have HD1:=hY (hcd.new hal);have HE1:=hY (hce.new hal);have HL:=hY hL;clear hw1 hal hk hcp hcw hcd hce hL;obtain ⟨x5,e5⟩:∃ b,(s.op==5)=b:=⟨_,rfl⟩
 have e5n:(s.op != 5)=!x5:=by rw [bne,e5]
 have heb:e.toNat<256:=Jm _;have H0:Hid (x=Ck.bodyW e s.docs (Ck.wordsL s.op e (s.words.drop 0) (s.docs.drop 0))):=hY (by rw [Jw,Jw,←H.out,Ck.bodyL_eq]);have HLW:Hid (∀ p∈s.words,p.length≤1050000):=hY (fun p hp=>HL.out _ (by simp only [Ck.textsL,Km];exact .inl (.inl (.inl (.inr hp)))));have HLD:Hid (∀ d∈s.docs,d.name.length≤1050000∧d.text.length≤1050000):=hY (fun p hp=>⟨HL.out _ (by simp only [Ck.textsL,Km,List.mem_flatMap];exact .inr ⟨p,hp,by simp⟩),HL.out _ (by simp only [Ck.textsL,Km,List.mem_flatMap];exact .inr ⟨p,hp,by simp⟩)⟩);have hwn:s.words.length≤1050000:=by omega
 have hdn:s.docs.length≤1050000:=by omega
 clear H HL;go_enter Tryz.func86,Tryz.ntmps86;go_upto_region 1 with fail;rw [HW1.out];clear HW1;go_wp2_with fail;go_loopw [5,6] (fun t5 t6 wr=>∃ i j:Nat,i≤s.words.length∧j≤s.docs.length∧t5=.int .i64 (j:Int)∧t6=.int .i64 (i:Int)∧Hid (x=Ck.bodyW e s.docs (Ck.wordsL s.op e (s.words.drop i) (s.docs.drop j)))∧Hid (Below w1.heap.size w1 wr)) (fun _ t6 _=>s.words.length - (intOf t6).toNat)
 case atStart=>exact ⟨0,0,by omega,by omega,rfl,rfl,H0,hY (Ja _ _)⟩
 case round =>
  clear H0;rename World=>wr;obtain ⟨i,j,hi,hj,rfl,rfl,HR,HB⟩:=hrel;have j0:(0:Int)≤(i:Int):=by omega
  have j1:(0:Int)≤(j:Int):=by omega
  have HKr:=hY (HK.out.below HB.out HK.out.lt);have b0:wr.cell? ⟨w.heap.size,0,none⟩=some (Value.int .i64 s.op):=HKr.out.cell 0;have b7:wr.cell? ⟨w.heap.size,7,none⟩=some (Value.slice Aw s.words.length kw):=HKr.out.cell 7;have b8:wr.cell? ⟨w.heap.size,8,none⟩=some (Value.slice Ad s.docs.length kd):=HKr.out.cell 8;have HBW:=hY (za HAL.out HB.out HAL.out.size);rcases Jh i s.words.length with hin | hin
  · have i0:decide ((i:Int)<(s.words.length:Int))=true:=dT (by omega);have i1:(i:Int)<(s.words.length:Int):=by omega
    obtain ⟨g,o,c,hv,c0⟩:=Yf (HV1.out.new HB.out) hin;injection hv with hA _ hcc;subst hA hcc;have hR:=HR.out;rw [Js hin] at hR;have hwl:=HLW.out _ (Jl hin);obtain ⟨wd,hwd⟩:∃ P,s.words[i]=P:=⟨_,rfl⟩
    rw [hwd] at hR c0 hwl;have HRR:=hY hR;obtain ⟨op,hop⟩:∃ b,Hid (Ck.opening wd=b):=⟨_,hY rfl⟩
    obtain ⟨pl,hpl⟩:∃ b,Hid ((!(x5&&op))=b):=⟨_,hY rfl⟩
    have HZW:=hY (zd wd);have hzw2:(bs wd).size≤2000000:=by rw [zd];omega
    clear hR hwd HR;go_upto_region 6 with fail;go_cut [39] from 27 to 38 (fun sy wx=>sy=.bool pl∧wr=wx)
    case first =>
     as_aux_lemma =>
     cases x5 with
     | false =>go_wp2_with fail;go_meet;exact ⟨by rw [←hpl.out];rfl,by trivial⟩
     | true =>
      rcases Jh wd.length 2 with h2 | h2
      · have q0:decide (((bs wd).size:Int)<2)=true:=by rw [Jj];have:=HZW.out;omega
        have q1:decide ((bs wd).size<2)=true:=by rw [Jj];have:=HZW.out;omega
        have HF:Hid (op=false):=hY (by rw [←hop.out,←Bool.not_eq_true];intro h;have:=(Uo h).1;omega);go_wp2_with fail;go_meet;exact ⟨by rw [←hpl.out,HF.out];rfl,by trivial⟩
      · have q0:decide (((bs wd).size:Int)<2)=false:=by rw [Ka];have:=HZW.out;omega
        have q1:decide ((bs wd).size<2)=false:=by rw [Ka];have:=HZW.out;omega
        have sl:=YR wd 2 2 rfl h2;obtain ⟨T,hT⟩:∃ T,wd.take 2=T:=⟨_,rfl⟩
        rw [hT] at sl;obtain ⟨z,ez⟩:∃ b,((bs T).toList==[60,60])=b:=⟨_,rfl⟩
        have HF:Hid (op=z):=hY (by rw [←hop.out,←ez,zh,Ck.opening,hT]);clear hT;cases z <;> (
         go_wp2_with fail;go_meet;exact ⟨by rw [←hpl.out,HF.out];rfl,by trivial⟩)
    case rest =>
     obtain ⟨rfl,rfl⟩:=hcut;cases pl with
     | true =>
      obtain ⟨n,hn2⟩:∃ n,Hid (Ck.wordL e wd=n):=⟨_,hY rfl⟩
      have HR2:Hid (x=Ck.bodyW e s.docs (if n≠0 then .inl n else Ck.wordsL s.op e (s.words.drop (i+1)) (s.docs.drop j))):=hY (by
       rw [HRR.out,Ck.wordsL_plain (by
        have h:=hpl.out;rw [Bool.not_eq_true',Bool.and_eq_false_iff] at h;rcases h with h | h
        · rw [h] at e5;exact .inl (Jr.1 e5)
        · exact .inr (hop.out.trans h)),hn2.out])
      have HWD:=hY (ZX wd (by omega) e wr hn2);go_wp2_with fail;refine HWD.out.mono ?_;rintro a w5 ⟨rfl,hb5⟩;have HB5:=hY (HB.out.trans (hb5.mono HB.out.size));have HBW5:=hY (za HBW.out hb5 HBW.out.size);clear hb5 HWD c0 b0 b7 b8;rcases Ju n with hn0 | hn0
      · subst hn0;go_wp2_with fail;go_roundw
        case rel=>exact ⟨i+1,j,by omega,hj,by trivial,by go_num,hY (by rw [HR2.out];rfl),HB5⟩
        case measure=>simp [intOf];omega
      · have k0:((n:Int)==0)=false:=bF (by omega);have k1:(n==0)=false:=bF (by omega);have k2:((n:Int) != 0)=true:=by rw [bne,k0];rfl
        have HF:Hid (x=n):=hY (by rw [HR2.out,if_pos (by omega)];rfl);go_wp2_with fail;go_ret;exact ⟨by rw [HF.out];rfl,HBW5.out⟩
     | false =>
      have hxo:x5=true∧op=true:=by have h:=hpl.out;rw [Bool.not_eq_false',Jy] at h;exact h
      have h5:Hid (s.op=5):=hY (by rw [hxo.1] at e5;exact Jx.1 e5);have ho:Hid (Ck.opening wd=true):=hY (hop.out.trans hxo.2);obtain ⟨mm,hm⟩:∃ mm,s.words.length=mm+1:=⟨s.words.length - 1,by omega⟩
      have z3:IntKind.i64.wrap ((s.words.length:Int) - 1)=(mm:Int):=by rw [IntWalk.i64_in _ (by omega)];omega
      have HM:=hY hm;have hmi:i≤mm:=by omega
      clear hm hxo;rcases Jh i mm with him | him
      · have k0:((i:Int)==(mm:Int))=false:=bF (by omega);have k1:(i==mm)=false:=bF (by omega);have hrn:Hid (s.words.drop (i+1)≠[]):=hY (by rw [Ne,List.drop_eq_nil_iff];have:=HM.out;omega);obtain ⟨t,ht⟩:∃ t,Hid (Ck.opT (Ck.opU (wd.drop 2))=t):=⟨_,hY rfl⟩
        obtain ⟨q,hq⟩:∃ t,Hid (Ck.opQ (Ck.opU (wd.drop 2))=t):=⟨_,hY rfl⟩
        obtain ⟨ok,hok⟩:∃ b,Hid (Ck.opOk t=b):=⟨_,hY rfl⟩
        have HOE:Hid (Ck.opensL (wd.drop 2)=if ok then some (t,q) else none):=hY (by rw [Ck.opens_eq,ht.out,hq.out,hok.out]);have HOC:=hY (WV wd (by omega) ho.out wr ht hq hok);go_upto_region 12 with fail;clear z3 k0 k1;go_wp2_with fail;refine HOC.out.mono ?_;rintro a w5 ⟨⟨t',q',rfl,htq⟩,hb5⟩;have HB5:=hY (HB.out.trans (hb5.mono HB.out.size));have HBW5:=hY (za HBW.out hb5 HBW.out.size);have HK5:=hY (HKr.out.below hb5 HKr.out.lt);clear hb5 HOC c0 b0 b7 b8;have b8:w5.cell? ⟨w.heap.size,8,none⟩=some (Value.slice Ad s.docs.length kd):=HK5.out.cell 8;go_upto_region 13 with fail;go_cut [86] from 58 to 85 (fun sy wx=>(∃ bad,sy=.bool bad∧Hid (x=if bad then 26 else Ck.bodyW e s.docs (Ck.wordsL s.op e (s.words.drop (i+1)) (s.docs.drop (j+1))))∧(bad=false→j<s.docs.length))∧w5=wx)
        case first =>
         as_aux_lemma =>
         cases ok with
         | false =>have HF:Hid (x=26):=hY (by rw [HRR.out,Ck.wordsL_none h5.out ho.out hrn.out (by rw [HOE.out];rfl)];rfl);go_wp2_with fail;go_meet;exact ⟨⟨true,by trivial,hY (by rw [HF.out];rfl),fun h=>by cases h⟩,by trivial⟩
         | true =>
          obtain ⟨rfl,rfl⟩:=htq rfl;rcases Jh j s.docs.length with hjn | hjn
          · have k0:((j:Int)==(s.docs.length:Int))=false:=bF (by omega);have k1:(j==s.docs.length)=false:=bF (by omega);have k2:(j:Int)<(s.docs.length:Int):=by omega
            obtain ⟨g2,o2,c2,hv2,d0,d1,d2,d3⟩:=ZH (HD1.out.new HB5.out) hjn;injection hv2 with hA2 _ hc2;subst hA2 hc2;have hdr:s.docs.drop j=s.docs[j]::s.docs.drop (j+1):=Js hjn;obtain ⟨D,hD⟩:∃ D,s.docs[j]=D:=⟨_,rfl⟩
            rw [hD] at d0 d1 hdr;obtain ⟨dn,dr,dl,dt⟩:=D;dsimp only at d0 d1;have HDR:=hY hdr;clear hD hdr d2 d3;obtain ⟨nm,enm⟩:∃ b,((bs dn).toList==(bs t').toList)=b:=⟨_,rfl⟩
            have HNM:Hid (decide (dn=t')=nm):=hY (by rw [←enm,zh,zh,Jz,Jj,Jx]);have HF:Hid (x=if nm&&(dr==q') then Ck.bodyW e s.docs (Ck.wordsL s.op e (s.words.drop (i+1)) (s.docs.drop (j+1))) else 26):=hY (by
             rw [HRR.out,HDR.out]
             by_cases hh:dn=t'∧dr=q'
             · rw [Ck.wordsL_hit h5.out ho.out hrn.out (by rw [HOE.out];rfl) hh.1 hh.2,if_pos];rw [←HNM.out,hh.1,hh.2,Jy];exact ⟨by simp,by simp⟩
             · rw [Ck.wordsL_miss h5.out ho.out hrn.out (by rw [HOE.out];rfl) hh,if_neg]
               · rfl
               · rw [←HNM.out,Jy,Jj,Jx];exact hh)
            cases nm <;> cases dr <;> cases q' <;> (
             go_wp2_with fail;go_meet;exact ⟨⟨_,by trivial,hY (by rw [HF.out];rfl),fun _=>hjn⟩,by trivial⟩)
          · have k0:((j:Int)==(s.docs.length:Int))=true:=bT (by omega);have k1:(j==s.docs.length)=true:=bT (by omega);have HF:Hid (x=26):=hY (by rw [HRR.out,Jt hjn,Ck.wordsL_empty h5.out ho.out hrn.out];rfl);go_wp2_with fail;go_meet;exact ⟨⟨true,by trivial,hY (by rw [HF.out];rfl),fun h=>by cases h⟩,by trivial⟩
        case rest =>
         obtain ⟨⟨bad,rfl,HRB,hjb⟩,rfl⟩:=hcut;cases bad with
         | true =>go_wp2_with fail;go_ret;exact ⟨by rw [HRB.out];rfl,HBW5.out⟩
         | false =>
          have hjn:=hjb rfl;go_wp2_with fail;go_roundw
          case rel=>exact ⟨i+1,j+1,by omega,by omega,by go_num,by go_num,hY (by rw [HRB.out];rfl),HB5⟩
          case measure=>simp [intOf];omega
      · have k0:((i:Int)==(mm:Int))=true:=bT (by omega);have k1:(i==mm)=true:=bT (by omega);have HF:Hid (x=4):=hY (by rw [HRR.out,Ck.wordsL_last h5.out ho.out (by rw [List.drop_eq_nil_iff];have:=HM.out;omega)];rfl);go_wp2_with fail;go_ret;exact ⟨by rw [HF.out];rfl,HBW.out⟩
  · have i0:decide ((i:Int)<(s.words.length:Int))=false:=dF (by omega);have e0n:decide (i<s.words.length)=false:=dF (by omega);have HR2:Hid (x=Ck.bodyW e s.docs (.inr (s.docs.drop j))):=hY (by rw [HR.out,Jt hin];rfl);clear HR;rcases Jh j s.docs.length with hjn | hjn
    · have k0:decide ((j:Int)<(s.docs.length:Int))=true:=dT (by omega);have k1:decide (j<s.docs.length)=true:=dT (by omega);have HF:Hid (x=26):=hY (by rw [HR2.out,Js hjn];rfl);go_wp2_with fail;go_ret;exact ⟨by rw [HF.out];rfl,HBW.out⟩
    · have k0:decide ((j:Int)<(s.docs.length:Int))=false:=dF (by omega);have k1:decide (j<s.docs.length)=false:=dF (by omega);have HD0:Hid (x=Ck.docsL e (s.docs.drop 0)):=hY (by rw [HR2.out,Jt hjn,Jw];rfl);clear HR2;go_upto_region 18 with fail;clear i0 e0n k0 k1 b0 b7 b8 j0 j1;go_wp2_with fail;go_loopw [12] (fun t12 wx=>∃ k:Nat,k≤s.docs.length∧t12=.int .i64 (k:Int)∧Hid (x=Ck.docsL e (s.docs.drop k))∧Hid (Below w1.heap.size w1 wx)) (fun t12 _=>s.docs.length - (intOf t12).toNat)
      case atStart=>exact ⟨0,by omega,rfl,HD0,HB⟩
      case round =>
       clear HD0 HB HBW HKr;rename World=>ws;obtain ⟨k,hk,rfl,HR,HB⟩:=hrel;have j0:(0:Int)≤(k:Int):=by omega
       have HKr:=hY (HK.out.below HB.out HK.out.lt);have b8:ws.cell? ⟨w.heap.size,8,none⟩=some (Value.slice Ad s.docs.length kd):=HKr.out.cell 8;have HBW:=hY (za HAL.out HB.out HAL.out.size);rcases Jh k s.docs.length with hkn | hkn
       · have i0:decide ((k:Int)<(s.docs.length:Int))=true:=dT (by omega);have i1:(k:Int)<(s.docs.length:Int):=by omega
         obtain ⟨g2,o2,c2,hv2,d0,d1,d2,d3⟩:=ZH (HD1.out.new HB.out) hkn;injection hv2 with hA2 _ hc2;subst hA2 hc2;have hR:=HR.out;rw [Js hkn] at hR;have hdl:=(HLD.out _ (Jl hkn)).2;obtain ⟨D,hD⟩:∃ D,s.docs[k]=D:=⟨_,rfl⟩
         rw [hD] at d1 d3 hR hdl;obtain ⟨dn,dr,dl,dt⟩:=D;dsimp only at d1 d3 hdl;obtain ⟨n,hn2⟩:∃ n,Hid (Ck.docL e dt=n):=⟨_,hY rfl⟩
         have hne:=jU e dt;rw [hn2.out] at hne;have HR2:Hid (x=if dr=false∧n≠0 then n else Ck.docsL e (s.docs.drop (k+1))):=hY (by rw [hR];show (if dr=false∧Ck.docL e dt≠0 then Ck.docL e dt else Ck.docsL e (s.docs.drop (k+1)))=_;rw [hn2.out]);clear hR hD HR d0 d2;cases dr with
         | true =>
          go_wp2_with fail;go_roundw
          case rel=>exact ⟨k+1,by omega,by go_num,hY (by rw [HR2.out,if_neg (by simp)]),HB⟩
          case measure=>simp [intOf];omega
         | false =>
          have HDC:=hY (Qd dt (by omega) e ws);rw [hn2.out] at HDC;go_wp2_with fail;refine HDC.out.mono ?_;rintro a w5 ⟨⟨t,q,rfl,h1,h2⟩,hb5⟩;have HB5:=hY (HB.out.trans (hb5.mono HB.out.size));have HBW5:=hY (za HBW.out hb5 HBW.out.size);clear hb5 HDC b8 d1 d3;rcases Ju n with hn0 | hn0
          · subst hn0;rcases h1 rfl with rfl | rfl <;> (
             go_wp2_with fail;go_roundw
             case rel=>exact ⟨k+1,by omega,by go_num,hY (by rw [HR2.out,if_neg (by simp)]),HB5⟩
             case measure=>simp [intOf];omega)
          · have hq:=h2 (by omega);subst hq;have k0:((n:Int)==0)=false:=bF (by omega);have k1:(n==0)=false:=bF (by omega);have k2:((n:Int) != 0)=true:=by rw [bne,k0];rfl
            have k3:((n:Int)==5)=false:=bF (by omega);have k4:(n==5)=false:=bF (by omega);have k5:((n:Int) != 5)=true:=by rw [bne,k3];rfl
            have HF:Hid (x=n):=hY (by rw [HR2.out,if_pos ⟨by simp,by omega⟩]);clear h1 h2 hne;go_wp2_with fail;go_ret;exact ⟨by rw [HF.out];rfl,HBW5.out⟩
       · have i0:decide ((k:Int)<(s.docs.length:Int))=false:=dF (by omega);have i0n:decide (k<s.docs.length)=false:=dF (by omega);have HF:Hid (x=0):=hY (by rw [HR.out,Jt hkn];rfl);go_wp2_with fail;go_ret;exact ⟨by rw [HF.out];rfl,HBW.out⟩
end Go.Proofs.YtdaejggcjjdhkaaGreatDoor
