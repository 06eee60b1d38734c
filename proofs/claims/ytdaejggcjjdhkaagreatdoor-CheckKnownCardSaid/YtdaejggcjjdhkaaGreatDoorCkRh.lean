/- strataref15's plain, walked. (Printed by wip/genqt.py.) -/
import Derived.Test.YtdaejggcjjdhkaaGreatDoorCkRf
import Derived.Deep.LoopGhost
import Derived.Deep.DeepCutAuto
set_option maxHeartbeats 4000000
set_option maxRecDepth 100000
namespace Go.Proofs.YtdaejggcjjdhkaaGreatDoor
open Go Go.RowKit
theorem jT {s:List UInt8} {e:UInt8} {q p':Nat} {no:Int} (h:Zp .quoted s (Ex.er (Ex.readL e .quoted (s.drop q))) no p') (hq:q≤s.length):q≤p':=by
 cases hv:Ex.readL e .quoted (s.drop q) with
 | inl z =>rw [hv] at h;have:=h.2.2.1;omega
 | inr pr =>obtain ⟨l,r⟩:=pr;rw [hv] at h;have h2:p'+r.length+0=s.length:=h.2;have h3:=Ex.readL_len hv;rw [Jn] at h3;omega
theorem X3 {s:List UInt8} {e:UInt8} (hs:s.length≤2000000) {p0:Nat} (hp0:p0≤s.length) (HV:∀ (p:Nat) (R:Nat) (v:Value) (w:World),p0≤p→p<s.length→RS15 w R s p e 0 v→Calls Tryz.prog 182 #[.pointer (some ⟨R,0,none⟩)] w (Ya w R s p e v (Ex.er (Ex.vR e (s.drop (p+1)))))) (HQ:∀ (p:Nat) (R:Nat) (v:Value) (w:World),p0≤p→p≤s.length→RS15 w R s p e 0 v→Calls Tryz.prog 185 #[.pointer (some ⟨R,0,none⟩)] w (XO .quoted w R s p e v (Ex.er (Ex.readL e .quoted (s.drop p))))) {b:Bool} {k:Ex.Kd} (hk:k=if b then Ex.Kd.braces else Ex.Kd.plain)
  {w:World} {R:Nat} {v:Value} (h:RS15 w R s p0 e 0 v) {X:Ex.E} (H:Hid (Ex.er (Ex.readL e k (s.drop p0))=X)):
  Calls Tryz.prog 157 #[.pointer (some ⟨R,0,none⟩),.bool b] w (XO k w R s p0 e v X):=by
 have HVR:=hY HV;have HQU:=hY HQ;have HK:=hY hk;have H0:Hid (L15 w w R s p0 e 0 v v (.slice none 0 0) 0 []∧YA k s e X 0 p0):=hY ⟨L15.start h,.inl ⟨rfl,hp0,H.out⟩⟩;have hz:=zd s;have HZ:=hY hz;have hs2:(bs s).size≤2000000:=by omega
 clear HV HQ hk hz h H;go_enter Tryz.func157,Tryz.ntmps157;go_wp2_with fail;go_loopg [5] (s.length+2 - p0) (fun gk tl wx=>∃ (p:Nat) (no:Int) (v1:Value) (n:Nat) (xs:List Value),L15 w wx R s p e no v v1 tl n xs∧n+p0≤p∧YA k s e X no p∧s.length+1 - p<gk)
 case atStart=>exact ⟨p0,0,v,0,[],H0.out.1,by omega,H0.out.2,by omega⟩
 case round =>
  as_aux_lemma =>
  clear H0;rename World=>wr;obtain ⟨p,no,v1,n,xs,hL,hnp,hlp,hgk⟩:=hrel;obtain ⟨A1,k1,rfl⟩:=zc hL.own;have hpl:=Y3 hlp;have HL:=hY hL;have HLP:=hY hlp;clear hL hlp;have j0:(0:Int)≤(p:Int):=by omega
  have c0:wr.cell? ⟨R,0,none⟩=some (.string (bs s)):=HL.out.rs.1.cell 0;have c1:wr.cell? ⟨R,1,none⟩=some (.int .i64 (p:Int)):=HL.out.rs.1.cell 1;have c2:wr.cell? ⟨R,2,none⟩=some (.int .u8 (e.toNat:Int)):=HL.out.rs.1.cell 2;have cf:=HL.out.rs.1.frozen 1;have hRw:R<w.heap.size:=HL.out.lt;rcases Jh p s.length with hin | hin
  · have hin2:p<(bs s).size:=by rw [HZ.out];exact hin
    have i0:decide ((p:Int)<((bs s).size:Int))=true:=dT (by omega);have i1:(p:Int)<((bs s).size:Int):=by omega
    obtain ⟨rfl,hrl⟩:=QW HLP.out hin;have HRL:=hY hrl;clear hrl HLP;obtain ⟨c,hc⟩:∃ c,(bs s)[p]'hin2=c:=⟨_,rfl⟩
    have HC:Hid (s[p]?=some c):=hY (by rw [yy s p hin2,hc]);have hcb:c.toNat<256:=Jm _;go_upto_region 2 with fail;go_region
    all_goals (
     have H1:=hY HL.out.drew;obtain ⟨w1,hw⟩:∃ y,wr.drew=y:=⟨_,rfl⟩
     rw [hw] at H1;rw [hw];clear hw;clear c0 c1 c2 cf;have c0:w1.cell? ⟨R,0,none⟩=some (.string (bs s)):=H1.out.rs.1.cell 0;have c1:w1.cell? ⟨R,1,none⟩=some (.int .i64 (p:Int)):=H1.out.rs.1.cell 1;have c2:w1.cell? ⟨R,2,none⟩=some (.int .u8 (e.toNat:Int)):=H1.out.rs.1.cell 2;have cf:=H1.out.rs.1.frozen 1;go_upto_region 3 with fail;go_region
     all_goals (
      have H2:=hY H1.out.drew;obtain ⟨w2,hw⟩:∃ y,w1.drew=y:=⟨_,rfl⟩
      rw [hw] at H2;rw [hw];clear hw;clear c0 c1 c2 cf i0 i1 hc H1 HL;obtain ⟨d,hd⟩:∃ d,Hid (s.getD (p+1) 0=d):=⟨_,hY rfl⟩
      obtain ⟨mo,hmo⟩:∃ b,Hid (decide (p+1<s.length)=b):=⟨_,hY rfl⟩
      have HNX:=hY (ZZ s hs p (by omega) e 0 v1 R w2 H2.out.rs.1);rw [hd.out,hmo.out] at HNX;go_wp2_with fail;refine HNX.out.mono ?_;rintro a w3 ⟨rfl,b3⟩;have H3:=hY (H2.out.new b3);clear b3 HNX H2;have hdb:d.toNat<256:=Jm _;obtain ⟨y,hy⟩:∃ y,Hid (Xr k e s p=y):=⟨_,hY rfl⟩
      obtain ⟨q0,t0⟩:∃ b,((c.toNat:Int)==(e.toNat:Int))=b:=⟨_,rfl⟩
      have HQ0:Hid ((c==e)=q0):=hY (by rw [←zH,t0]);have c0:w3.cell? ⟨R,0,none⟩=some (.string (bs s)):=H3.out.rs.1.cell 0;have c1:w3.cell? ⟨R,1,none⟩=some (.int .i64 (p:Int)):=H3.out.rs.1.cell 1;have c2:w3.cell? ⟨R,2,none⟩=some (.int .u8 (e.toNat:Int)):=H3.out.rs.1.cell 2;have cf:=H3.out.rs.1.frozen 1;have HY:Hid (y=mo):=hY (by rw [←hy.out,Xr,hmo.out,HK.out];cases b <;> exact Bool.and_true _);go_upto_region 6 with fail;go_cut [39] from 40 to 48 (fun sy wx=>sy=.bool (q0&&y)∧w3=wx)
      case first =>
       as_aux_lemma =>
       cases q0 <;> cases mo <;> (
        go_wp2_with fail;go_meet;exact ⟨by rw [HY.out];rfl,by trivial⟩)
      case rest =>
       obtain ⟨rfl,rfl⟩:=hcut;clear c0 c1 c2 cf hdb HY hmo hd;cases q0 with
       | true =>
        have hce:e=c:=(Jx.1 HQ0.out).symm;subst hce;cases y with
        | true =>
         obtain ⟨hp2,hnext⟩:=VP HC.out hy.out HRL.out;have HN:=hY hnext;clear hnext;have c0:w3.cell? ⟨R,0,none⟩=some (.string (bs s)):=H3.out.rs.1.cell 0;have c1:w3.cell? ⟨R,1,none⟩=some (.int .i64 (p:Int)):=H3.out.rs.1.cell 1;have c2:w3.cell? ⟨R,2,none⟩=some (.int .u8 (e.toNat:Int)):=H3.out.rs.1.cell 2;have cf:=H3.out.rs.1.frozen 1;obtain ⟨q,hqq⟩:∃ qx,p+1=qx:=⟨_,rfl⟩
         have hqi:(p:Int)+1=(q:Int):=by omega
         have H4:=hY (H3.out.at_ (q:=q) (by omega));go_upto_region 8 with fail;obtain ⟨w4,hw⟩:∃ y,w3.setCell ⟨R,1,none⟩ (.int .i64 (q:Int))=y:=⟨_,rfl⟩
         rw [hw] at H4;rw [hw];clear hw;clear c0 c1 c2 cf hqi H3;obtain ⟨q2,hqq2⟩:∃ qx,q+1=qx:=⟨_,rfl⟩
         have HBY:=hY (zF s hs q 1 (by omega) e 0 v1 R w4 H4.out.rs.1);go_wp2_with fail;refine HBY.out.mono ?_;rintro a wb ⟨rfl,hbb,hfb⟩;rw [hqq2] at hbb;have HB_:=hY (H4.out.to hfb (by omega) hbb);clear hbb hfb HBY H4;obtain ⟨T,hT⟩:∃ T,(s.drop q).take 1=T:=⟨_,rfl⟩
         have hTl:T.length≤2000000:=by rw [←hT,Kt,Jn];omega
         rw [hT];clear hT;have HNW:=hY (zA wb wb.heap.size rfl [.string (bs T),.string (bs []),.int .u8 ((0:UInt8).toNat:Int),.slice none 0 0] 203);have HOA:=hY (HB_.out.own.alloc (.cells #[.string (bs T),.string (bs []),.int .u8 ((0:UInt8).toNat:Int),.slice none 0 0] 203));have HBA:=hY ((Ja w.heap.size wb).alloc HB_.out.fx.size (.cells #[.string (bs T),.string (bs []),.int .u8 ((0:UInt8).toNat:Int),.slice none 0 0] 203));have HSA:Hid (w.heap.size≤(wb.alloc (.cells #[.string (bs T),.string (bs []),.int .u8 ((0:UInt8).toNat:Int),.slice none 0 0] 203)).heap.size):=hY (Jg HB_.out.fx.size (by rw [Jb];omega));have HPU:=hY (fun (w1:World) (lv':Value) a1 a2 a3=>HB_.out.push1 (w1:=w1) (lv':=lv') (t:=T) (nm:=[]) (op:=0) (A:=none) (m:=0) (c:=0) (ys:=[]) (.cells #[.string (bs T),.string (bs []),.int .u8 ((0:UInt8).toNat:Int),.slice none 0 0] 203) hTl (by simp) (by omega) yz PC.nil a1 a2 a3);go_wp2_with (at_builtin;refine zg rfl _ _ _ rfl Yi w.heap.size _ _ _ rfl HOA.out _ 1 1 [.string (bs T),.string (bs []),.int .u8 ((0:UInt8).toNat:Int),.slice none 0 0] rfl rfl HNW.out (zr rfl) (by omega) (by omega) HBA.out HSA.out ?_;intro v6 w6 ho6 _ hg6 hat6;have h6:=HPU.out w6 v6 hg6 ho6 hat6;obtain ⟨A6,c6,rfl⟩:=zc ho6;clear ho6 hg6 hat6);have H6:=hY h6;clear h6 HNW HOA HBA HSA HPU HB_;rw [show p+2=q2 by omega] at HN;go_roundg (s.length+2 - q2)
         case measure=>omega
         case rel=>exact ⟨q2,_,v1,_,_,H6.out,by omega,.inl ⟨rfl,by omega,HN.out⟩,by omega⟩
        | false =>
         have HN:=hY (Yq HC.out hy.out HRL.out);have c0:w3.cell? ⟨R,0,none⟩=some (.string (bs s)):=H3.out.rs.1.cell 0;have c1:w3.cell? ⟨R,1,none⟩=some (.int .i64 (p:Int)):=H3.out.rs.1.cell 1;have c2:w3.cell? ⟨R,2,none⟩=some (.int .u8 (e.toNat:Int)):=H3.out.rs.1.cell 2;have cf:=H3.out.rs.1.frozen 1;go_upto_region 10 with fail;clear c0 c1 c2 cf;obtain ⟨q,hqq⟩:∃ qx,p+1=qx:=⟨_,rfl⟩
         have HBY:=hY (zF s hs p 1 (by omega) e 0 v1 R w3 H3.out.rs.1);go_wp2_with fail;refine HBY.out.mono ?_;rintro a wb ⟨rfl,hbb,hfb⟩;rw [hqq] at hbb;have HB_:=hY (H3.out.to hfb (by omega) hbb);clear hbb hfb HBY H3;obtain ⟨T,hT⟩:∃ T,(s.drop p).take 1=T:=⟨_,rfl⟩
         have hTl:T.length≤2000000:=by rw [←hT,Kt,Jn];omega
         rw [hT];clear hT;have HNW:=hY (zA wb wb.heap.size rfl [.string (bs T),.string (bs []),.int .u8 ((0:UInt8).toNat:Int),.slice none 0 0] 203);have HOA:=hY (HB_.out.own.alloc (.cells #[.string (bs T),.string (bs []),.int .u8 ((0:UInt8).toNat:Int),.slice none 0 0] 203));have HBA:=hY ((Ja w.heap.size wb).alloc HB_.out.fx.size (.cells #[.string (bs T),.string (bs []),.int .u8 ((0:UInt8).toNat:Int),.slice none 0 0] 203));have HSA:Hid (w.heap.size≤(wb.alloc (.cells #[.string (bs T),.string (bs []),.int .u8 ((0:UInt8).toNat:Int),.slice none 0 0] 203)).heap.size):=hY (Jg HB_.out.fx.size (by rw [Jb];omega));have HPU:=hY (fun (w1:World) (lv':Value) a1 a2 a3=>HB_.out.push1 (w1:=w1) (lv':=lv') (t:=T) (nm:=[]) (op:=0) (A:=none) (m:=0) (c:=0) (ys:=[]) (.cells #[.string (bs T),.string (bs []),.int .u8 ((0:UInt8).toNat:Int),.slice none 0 0] 203) hTl (by simp) (by omega) yz PC.nil a1 a2 a3);go_wp2_with (at_builtin;refine zg rfl _ _ _ rfl Yi w.heap.size _ _ _ rfl HOA.out _ 1 1 [.string (bs T),.string (bs []),.int .u8 ((0:UInt8).toNat:Int),.slice none 0 0] rfl rfl HNW.out (zr rfl) (by omega) (by omega) HBA.out HSA.out ?_;intro v6 w6 ho6 _ hg6 hat6;have h6:=HPU.out w6 v6 hg6 ho6 hat6;obtain ⟨A6,c6,rfl⟩:=zc ho6;clear ho6 hg6 hat6);have H6:=hY h6;clear h6 HNW HOA HBA HSA HPU HB_;rw [hqq] at HN;go_roundg (s.length+2 - q)
         case measure=>omega
         case rel=>exact ⟨q,_,v1,_,_,H6.out,by omega,.inl ⟨rfl,by omega,HN.out⟩,by omega⟩
       | false =>
        rw [Bool.false_and];have hce:c≠e:=by have:=HQ0.out;rw [Jr] at this;exact this
        have HCE:=hY hce;clear hce hy;obtain ⟨z125,e125⟩:∃ b,((c.toNat:Int)==125)=b:=⟨_,rfl⟩
        have HC125:Hid ((c==125)=z125):=hY (by rw [←e125,show (125:Int)=(((125:UInt8).toNat:Nat):Int) from rfl,zH]);obtain ⟨z39,e39⟩:∃ b,((c.toNat:Int)==39)=b:=⟨_,rfl⟩
        have HC39:Hid ((c==39)=z39):=hY (by rw [←e39,show (39:Int)=(((39:UInt8).toNat:Nat):Int) from rfl,zH]);obtain ⟨z34,e34⟩:∃ b,((c.toNat:Int)==34)=b:=⟨_,rfl⟩
        have HC34:Hid ((c==34)=z34):=hY (by rw [←e34,show (34:Int)=(((34:UInt8).toNat:Nat):Int) from rfl,zH]);obtain ⟨z36,e36⟩:∃ b,((c.toNat:Int)==36)=b:=⟨_,rfl⟩
        have HC36:Hid ((c==36)=z36):=hY (by rw [←e36,show (36:Int)=(((36:UInt8).toNat:Nat):Int) from rfl,zH]);have c0:w3.cell? ⟨R,0,none⟩=some (.string (bs s)):=H3.out.rs.1.cell 0;have c1:w3.cell? ⟨R,1,none⟩=some (.int .i64 (p:Int)):=H3.out.rs.1.cell 1;have c2:w3.cell? ⟨R,2,none⟩=some (.int .u8 (e.toNat:Int)):=H3.out.rs.1.cell 2;have cf:=H3.out.rs.1.frozen 1;obtain ⟨st,hst⟩:∃ st,Hid ((z125&&b)=st):=⟨_,hY rfl⟩
        have HST:Hid (Ex.stops k c=st):=hY (by
         rw [←hst.out,←HC125.out,HK.out];cases b with
         | false=>rw [Bool.and_false];rfl
         | true=>rw [Bool.and_true];rfl)
        have HQK:Hid (Ex.quotes k=true):=hY (by rw [HK.out];cases b <;> rfl);go_upto_region 11 with fail;go_cut [73] from 74 to 78 (fun sy wx=>sy=.bool st∧w3=wx)
        case first =>
         as_aux_lemma =>
         cases z125 <;> cases b <;> (
          go_wp2_with fail;go_meet;exact ⟨by rw [←hst.out];rfl,by trivial⟩)
        case rest =>
         obtain ⟨rfl,rfl⟩:=hcut;cases st with
         | true =>
          have hbb:z125=true∧b=true:=by have:=hst.out;rwa [Jy] at this
          have HKB:Hid (k=.braces):=hY (by rw [HK.out,hbb.2];rfl);have hct:c=125:=Jx.1 (by rw [HC125.out];exact hbb.1);subst hct;have hX:=Ut HC.out HCE.out (by decide) HST.out HRL.out;have hkb:kb k=1:=by rw [HKB.out];rfl
          clear c0 c1 c2 cf hst hbb;go_wp2_with fail;go_ret;rw [hX];exact ⟨p,0,v1,_,n,xs,rfl,H3.out,by omega,rfl,by rw [Jn,hkb];omega⟩
         | false =>
          cases z39 with
          | true =>
           have hct:c=39:=Jx.1 HC39.out;subst hct;go_upto_region 14 with fail;clear c0 c1 c2 cf;have c0:w3.cell? ⟨R,0,none⟩=some (.string (bs s)):=H3.out.rs.1.cell 0;have c1:w3.cell? ⟨R,1,none⟩=some (.int .i64 (p:Int)):=H3.out.rs.1.cell 1;have c2:w3.cell? ⟨R,2,none⟩=some (.int .u8 (e.toNat:Int)):=H3.out.rs.1.cell 2;have cf:=H3.out.rs.1.frozen 1;obtain ⟨q,hqq⟩:∃ qx,p+1=qx:=⟨_,rfl⟩
           have hqi:(p:Int)+1=(q:Int):=by omega
           have H4:=hY (H3.out.at_ (q:=q) (by omega));go_upto_region 15 with fail;obtain ⟨w4,hw⟩:∃ y,w3.setCell ⟨R,1,none⟩ (.int .i64 (q:Int))=y:=⟨_,rfl⟩
           rw [hw] at H4;rw [hw];clear hw;clear c0 c1 c2 cf hqi H3;go_wp2_with fail;go_loopg [9] (s.length+1 - q) (fun gn t9 wx=>∃ nn:Nat,t9=.int .i64 (nn:Int)∧L15 w wx R s q e 0 v v1 (.slice A1 n k1) n xs∧Hid (∀ i,i<nn→s[q+i]?≠some 39)∧q+nn≤s.length∧s.length - (q+nn)<gn)
           case atStart=>exact ⟨0,rfl,H4.out,hY (fun i hi=>by omega),by omega,by omega⟩
           case round =>
            clear H4;rename World=>wq;obtain ⟨nn,rfl,hL4,hno,hqn,hgn⟩:=hrel;have H4:=hY hL4;clear hL4;obtain ⟨m,hm⟩:∃ m,q+nn=m:=⟨_,rfl⟩
            have hmi:(q:Int)+(nn:Int)=(m:Int):=by omega
            have k0:(0:Int)≤(m:Int):=by omega
            rw [hm] at hqn;have c0:wq.cell? ⟨R,0,none⟩=some (.string (bs s)):=H4.out.rs.1.cell 0;have c1:wq.cell? ⟨R,1,none⟩=some (.int .i64 (q:Int)):=H4.out.rs.1.cell 1;have c2:wq.cell? ⟨R,2,none⟩=some (.int .u8 (e.toNat:Int)):=H4.out.rs.1.cell 2;have cf:=H4.out.rs.1.frozen 1;rcases Jh m s.length with hml | hml
            · have hm2:m<(bs s).size:=by rw [HZ.out];exact hml
              have i0:decide ((m:Int)<((bs s).size:Int))=true:=dT (by omega);have i1:(m:Int)<((bs s).size:Int):=by omega
              have i2:((m:Int)==((bs s).size:Int))=false:=bF (by omega);have i3:(m==(bs s).size)=false:=bF (by omega);obtain ⟨cc,hcc⟩:∃ c,(bs s)[m]'hm2=c:=⟨_,rfl⟩
              have HCM:Hid (s[m]?=some cc):=hY (by rw [yy s m hm2,hcc]);have hccb:cc.toNat<256:=Jm _;obtain ⟨zq,ezq⟩:∃ b,((cc.toNat:Int)==39)=b:=⟨_,rfl⟩
              have ezn:((cc.toNat:Int) != 39)=!zq:=by rw [bne,ezq]
              have HZQ:Hid ((cc==39)=zq):=hY (by rw [←ezq,show (39:Int)=(((39:UInt8).toNat:Nat):Int) from rfl,zH]);go_upto_region 16 with fail;cases zq with
              | false =>
               have hne:Hid (s[m]?≠some 39):=hY (by rw [HCM.out];intro h;injection h with h;have:=HZQ.out;rw [Jr] at this;exact this h);go_region
               all_goals (
                have H5:=hY H4.out.drew;go_wp2_with fail;go_roundg (s.length - (q+(nn+1))+1)
                case measure=>omega
                case rel=>exact ⟨nn+1,by go_num,H5.out,hY (fun i hi=>by rcases Jh i nn with h | h;exact hno.out i h;rw [show q+i=m by omega];exact hne.out),by omega,by omega⟩)
              | true =>
               have h39:Hid (s[m]?=some 39):=hY (by rw [HCM.out,Jx.1 HZQ.out]);have HN:=hY (lp_q (n:=nn) HCE.out HQK.out HC.out (by rw [hqq];exact hno.out) (by rw [hqq,hm];exact h39.out) HRL.out);rw [hqq,hm] at HN;go_region
               all_goals (
                have H5:=hY H4.out.drew;obtain ⟨w5,hw⟩:∃ y,wq.drew=y:=⟨_,rfl⟩
                rw [hw] at H5;rw [hw];clear hw;clear c0 c1 c2 cf hcc ezq ezn H4;have c0:w5.cell? ⟨R,0,none⟩=some (.string (bs s)):=H5.out.rs.1.cell 0;have c1:w5.cell? ⟨R,1,none⟩=some (.int .i64 (q:Int)):=H5.out.rs.1.cell 1;have c2:w5.cell? ⟨R,2,none⟩=some (.int .u8 (e.toNat:Int)):=H5.out.rs.1.cell 2;have cf:=H5.out.rs.1.frozen 1;go_upto_region 18 with fail;go_region
                all_goals (
                 have H6:=hY H5.out.drew;obtain ⟨w6,hw⟩:∃ y,w5.drew=y:=⟨_,rfl⟩
                 rw [hw] at H6;rw [hw];clear hw;clear c0 c1 c2 cf H5 i0 i1 i2 i3 hmi;obtain ⟨m2,hm3⟩:∃ qx,q+nn=qx:=⟨_,rfl⟩
                 have HBY:=hY (zF s hs q nn (by omega) e 0 v1 R w6 H6.out.rs.1);go_wp2_with fail;refine HBY.out.mono ?_;rintro a wb ⟨rfl,hbb,hfb⟩;rw [hm3] at hbb;have HB_:=hY (H6.out.to hfb (by omega) hbb);clear hbb hfb HBY H6;obtain ⟨T,hT⟩:∃ T,(s.drop q).take nn=T:=⟨_,rfl⟩
                 have hTl:T.length≤2000000:=by rw [←hT,Kt,Jn];omega
                 rw [hT];clear hT;have HNW:=hY (zA wb wb.heap.size rfl [.string (bs T),.string (bs []),.int .u8 ((0:UInt8).toNat:Int),.slice none 0 0] 203);have HOA:=hY (HB_.out.own.alloc (.cells #[.string (bs T),.string (bs []),.int .u8 ((0:UInt8).toNat:Int),.slice none 0 0] 203));have HBA:=hY ((Ja w.heap.size wb).alloc HB_.out.fx.size (.cells #[.string (bs T),.string (bs []),.int .u8 ((0:UInt8).toNat:Int),.slice none 0 0] 203));have HSA:Hid (w.heap.size≤(wb.alloc (.cells #[.string (bs T),.string (bs []),.int .u8 ((0:UInt8).toNat:Int),.slice none 0 0] 203)).heap.size):=hY (Jg HB_.out.fx.size (by rw [Jb];omega));have HPU:=hY (fun (w1:World) (lv':Value) a1 a2 a3=>HB_.out.push1 (w1:=w1) (lv':=lv') (t:=T) (nm:=[]) (op:=0) (A:=none) (m:=0) (c:=0) (ys:=[]) (.cells #[.string (bs T),.string (bs []),.int .u8 ((0:UInt8).toNat:Int),.slice none 0 0] 203) hTl (by simp) (by omega) yz PC.nil a1 a2 a3);go_upto_region 22 with (at_builtin;refine zg rfl _ _ _ rfl Yi w.heap.size _ _ _ rfl HOA.out _ 1 1 [.string (bs T),.string (bs []),.int .u8 ((0:UInt8).toNat:Int),.slice none 0 0] rfl rfl HNW.out (zr rfl) (by omega) (by omega) HBA.out HSA.out ?_;intro v6 w7 ho6 _ hg6 hat6;have h6:=HPU.out w7 v6 hg6 ho6 hat6;obtain ⟨A6,c6,rfl⟩:=zc ho6;clear ho6 hg6 hat6)
                 have H7:=hY h6;clear h6 HNW HOA HBA HSA HPU HB_;obtain rfl:m2=m:=by omega
                 have c0:w7.cell? ⟨R,0,none⟩=some (.string (bs s)):=H7.out.rs.1.cell 0;have c1:w7.cell? ⟨R,1,none⟩=some (.int .i64 (m2:Int)):=H7.out.rs.1.cell 1;have c2:w7.cell? ⟨R,2,none⟩=some (.int .u8 (e.toNat:Int)):=H7.out.rs.1.cell 2;have cf:=H7.out.rs.1.frozen 1;obtain ⟨m4,hm5⟩:∃ qx,m2+1=qx:=⟨_,rfl⟩
                 have hqi:(m2:Int)+1=(m4:Int):=by omega
                 have H8:=hY (H7.out.at_ (q:=m4) (by omega));rw [hm5] at HN;go_wp2_with fail;go_roundg (s.length+2 - m4)
                 case measure=>omega
                 case rel=>exact ⟨m4,_,v1,_,_,H8.out,by omega,.inl ⟨rfl,by omega,HN.out⟩,by omega⟩))
            · have i0:decide ((m:Int)<((bs s).size:Int))=false:=by rw [Ka];have:=HZ.out;omega
              have i1:decide (m<(bs s).size)=false:=by rw [Ka];have:=HZ.out;omega
              have i2:((m:Int)==((bs s).size:Int))=true:=by rw [Jx];have:=HZ.out;omega
              have i3:(m==(bs s).size)=true:=by rw [Jx];have:=HZ.out;omega
              have hX:=jN HCE.out HQK.out HC.out (by rw [hqq];exact QR hno.out (by omega)) HRL.out;have hkb:kb k≤1:=by cases k <;> decide
              go_upto_region 16 with fail;go_region
              all_goals (
               have H5:=hY H4.out.drew;obtain ⟨w5,hw⟩:∃ y,wq.drew=y:=⟨_,rfl⟩
               rw [hw] at H5;rw [hw];clear hw;clear c0 c1 c2 cf H4;have c0:w5.cell? ⟨R,0,none⟩=some (.string (bs s)):=H5.out.rs.1.cell 0;have c1:w5.cell? ⟨R,1,none⟩=some (.int .i64 (q:Int)):=H5.out.rs.1.cell 1;have c2:w5.cell? ⟨R,2,none⟩=some (.int .u8 (e.toNat:Int)):=H5.out.rs.1.cell 2;have cf:=H5.out.rs.1.frozen 1;go_upto_region 18 with fail;go_region
               all_goals (
                have H6:=hY H5.out.drew;obtain ⟨w6,hw⟩:∃ y,w5.drew=y:=⟨_,rfl⟩
                rw [hw] at H6;rw [hw];clear hw;clear c0 c1 c2 cf H5 i0 i1 i2 i3 hmi;have HWR:=hY (yA s hs q e 0 18 v1 R w6 H6.out.rs.1);go_wp2_with fail;refine HWR.out.mono ?_;rintro a w7 ⟨rfl,hb7,hf7⟩;have H7:=hY (H6.out.to hf7 (by omega) hb7);clear hb7 hf7 HWR;go_wp2_with fail;go_ret;rw [hX];exact ⟨_,_,v1,_,n,xs,rfl,H7.out,by omega,rfl,by decide,Jd _,by omega⟩))
          | false =>
           cases z34 with
           | true =>
            have hct:c=34:=Jx.1 HC34.out;subst hct;go_upto_region 24 with fail;clear c0 c1 c2 cf;have c0:w3.cell? ⟨R,0,none⟩=some (.string (bs s)):=H3.out.rs.1.cell 0;have c1:w3.cell? ⟨R,1,none⟩=some (.int .i64 (p:Int)):=H3.out.rs.1.cell 1;have c2:w3.cell? ⟨R,2,none⟩=some (.int .u8 (e.toNat:Int)):=H3.out.rs.1.cell 2;have cf:=H3.out.rs.1.frozen 1;obtain ⟨q,hqq⟩:∃ qx,p+1=qx:=⟨_,rfl⟩
            have hqi:(p:Int)+1=(q:Int):=by omega
            have H4:=hY (H3.out.at_ (q:=q) (by omega));go_upto_region 25 with fail;obtain ⟨w4,hw⟩:∃ y,w3.setCell ⟨R,1,none⟩ (.int .i64 (q:Int))=y:=⟨_,rfl⟩
            rw [hw] at H4;rw [hw];clear hw;clear c0 c1 c2 cf hqi H3;have HCQ:=hY (HQU.out q R v1 w4 (by omega) (by omega) H4.out.rs);go_wp2_with fail;refine HCQ.out.mono ?_;rintro a w5 ⟨p',no',v5,lv5,nn,ys,rfl,hL5,hn5,hd5⟩;obtain ⟨A5,k5,rfl⟩:=zc hL5.own;have hge:=jT hd5 (by omega);rw [←hqq] at hd5;have hlp5:=zak (k:=k) HCE.out HQK.out HC.out HRL.out hd5;have hpb:=Y3 hlp5;have HLP5:=hY hlp5;have H5:=hY (H4.out.go hL5.rs hL5.nw hL5.fx);have hX:∀ b,b<w5.heap.size→False∨(b<w.heap.size∨v5.ownBlock=some b∨(Value.slice A1 n k1).ownBlock=some b)→b<w4.heap.size∨v5.ownBlock=some b∨(Value.slice A5 nn k5).ownBlock=some b:=fun b _ h=>by
             rcases h with h | h | h | h
             · exact h.elim
             · exact .inl (Nat.lt_of_lt_of_le h H4.out.fx.size)
             · exact .inr (.inl h)
             · exact .inl (H4.out.own.lt b h).2
            have HPC:=hY (hL5.pc.fx (S:=fun _=>False) Fx.refl hX);have HSL:=hY (SlA.own hL5.own);have HLN:=hY hL5.own.1;have HOC:=hY hL5.pc.one_cell;have HSZ:=hY H5.out.fx.size;have HPU:=hY (fun (w1:World) (lv':Value) a1 a2 a3=>H5.out.push (w1:=w1) (lv':=lv') a1 a2 a3 HPC.out);clear hL5 hd5 hlp5 hX HCQ H4;go_wp2_with (at_builtin;refine zp rfl _ _ _ rfl Yi w.heap.size _ _ _ rfl H5.out.own _ nn ys rfl HSL.out HLN.out HOC.out (by omega) (by omega) (Ja w.heap.size w5) HSZ.out ?_;intro v6 w6 ho6 _ hg6 hat6;have h6:=HPU.out w6 v6 hg6 ho6 (hat6.imp id fun e=>⟨_,Jd _,e⟩);obtain ⟨A6,c6,rfl⟩:=zc ho6;clear ho6 hg6 hat6);have H6:=hY h6;clear h6;go_roundg (s.length+2 - p')
            case measure=>omega
            case rel=>exact ⟨p',_,v5,_,_,H6.out,by omega,HLP5.out,by omega⟩
           | false =>
            have HQT:Hid ((Ex.quotes k&&(c==34||c==39))=false):=hY (by rw [HC34.out,HC39.out,Bool.or_self,Bool.and_false]);cases z36 with
            | true =>
             have hct:c=36:=Jx.1 HC36.out;subst hct;go_upto_region 27 with fail;clear c0 c1 c2 cf;have c0:w3.cell? ⟨R,0,none⟩=some (.string (bs s)):=H3.out.rs.1.cell 0;have c1:w3.cell? ⟨R,1,none⟩=some (.int .i64 (p:Int)):=H3.out.rs.1.cell 1;have c2:w3.cell? ⟨R,2,none⟩=some (.int .u8 (e.toNat:Int)):=H3.out.rs.1.cell 2;have cf:=H3.out.rs.1.frozen 1;go_upto_region 27 with fail;clear c0 c1 c2 cf;have HVA:=hY (HVR.out p R v1 w3 (by omega) hin H3.out.rs);go_wp2_with fail;refine HVA.out.mono ?_;rintro a w5 ⟨p',no',v5,t,nm,op,A,m,cc,ys,rfl,hrs,hnw,hfx,ht,hnm,hm,hrw,hpc,hpp,hdn⟩;have hlp5:=VO (k:=k) HCE.out HC.out HRL.out hdn;have hpb:=Y3 hlp5;have HLP5:=hY hlp5;have H5:=hY (H3.out.go hrs hnw hfx);have hX:∀ b,b<w5.heap.size→False∨(b<w.heap.size∨v5.ownBlock=some b∨(Value.slice A1 n k1).ownBlock=some b)→b<w3.heap.size∨v5.ownBlock=some b:=fun b _ h=>by
              rcases h with h | h | h | h
              · exact h.elim
              · exact .inl (Nat.lt_of_lt_of_le h H3.out.fx.size)
              · exact .inr h
              · exact .inl (H3.out.own.lt b h).2
             have HRW:=hY (hrw.fx (S:=fun _=>False) Fx.refl hX);have HPC:=hY (hpc.fx (S:=fun _=>False) Fx.refl hX);clear hrs hnw hfx hrw hpc hdn hlp5 hX HVA H3;have HNW:=hY (zA w5 w5.heap.size rfl [.string (bs t),.string (bs nm),.int .u8 ((op:UInt8).toNat:Int),.slice A m cc] 203);have HOA:=hY (H5.out.own.alloc (.cells #[.string (bs t),.string (bs nm),.int .u8 ((op:UInt8).toNat:Int),.slice A m cc] 203));have HBA:=hY ((Ja w.heap.size w5).alloc H5.out.fx.size (.cells #[.string (bs t),.string (bs nm),.int .u8 ((op:UInt8).toNat:Int),.slice A m cc] 203));have HSA:Hid (w.heap.size≤(w5.alloc (.cells #[.string (bs t),.string (bs nm),.int .u8 ((op:UInt8).toNat:Int),.slice A m cc] 203)).heap.size):=hY (Jg H5.out.fx.size (by rw [Jb];omega));have HPU:=hY (fun (w1:World) (lv':Value) a1 a2 a3=>H5.out.push1 (w1:=w1) (lv':=lv') (t:=t) (nm:=nm) (op:=op) (A:=A) (m:=m) (c:=cc) (ys:=ys) (.cells #[.string (bs t),.string (bs nm),.int .u8 ((op:UInt8).toNat:Int),.slice A m cc] 203) ht hnm hm HRW.out HPC.out a1 a2 a3);go_wp2_with (at_builtin;refine zg rfl _ _ _ rfl Yi w.heap.size _ _ _ rfl HOA.out _ 1 1 [.string (bs t),.string (bs nm),.int .u8 ((op:UInt8).toNat:Int),.slice A m cc] rfl rfl HNW.out (zr rfl) (by omega) (by omega) HBA.out HSA.out ?_;intro v6 w6 ho6 _ hg6 hat6;have h6:=HPU.out w6 v6 hg6 ho6 hat6;obtain ⟨A6,c6,rfl⟩:=zc ho6;clear ho6 hg6 hat6);have H6:=hY h6;clear h6 HNW HOA HBA HSA HPU H5;go_roundg (s.length+2 - p')
             case measure=>omega
             case rel=>exact ⟨p',_,v5,_,_,H6.out,by omega,HLP5.out,by omega⟩
            | false =>
             go_upto_region 5 with fail;clear c0 c1 c2 cf;have HN:=hY (Wa HC.out HCE.out (by have:=HC36.out;rwa [Jr] at this) HST.out HQT.out HRL.out);have c0:w3.cell? ⟨R,0,none⟩=some (.string (bs s)):=H3.out.rs.1.cell 0;have c1:w3.cell? ⟨R,1,none⟩=some (.int .i64 (p:Int)):=H3.out.rs.1.cell 1;have c2:w3.cell? ⟨R,2,none⟩=some (.int .u8 (e.toNat:Int)):=H3.out.rs.1.cell 2;have cf:=H3.out.rs.1.frozen 1;go_upto_region 5 with fail;clear c0 c1 c2 cf;obtain ⟨q,hqq⟩:∃ qx,p+1=qx:=⟨_,rfl⟩
             have HBY:=hY (zF s hs p 1 (by omega) e 0 v1 R w3 H3.out.rs.1);go_wp2_with fail;refine HBY.out.mono ?_;rintro a wb ⟨rfl,hbb,hfb⟩;rw [hqq] at hbb;have HB_:=hY (H3.out.to hfb (by omega) hbb);clear hbb hfb HBY H3;obtain ⟨T,hT⟩:∃ T,(s.drop p).take 1=T:=⟨_,rfl⟩
             have hTl:T.length≤2000000:=by rw [←hT,Kt,Jn];omega
             rw [hT];clear hT;have HNW:=hY (zA wb wb.heap.size rfl [.string (bs T),.string (bs []),.int .u8 ((0:UInt8).toNat:Int),.slice none 0 0] 203);have HOA:=hY (HB_.out.own.alloc (.cells #[.string (bs T),.string (bs []),.int .u8 ((0:UInt8).toNat:Int),.slice none 0 0] 203));have HBA:=hY ((Ja w.heap.size wb).alloc HB_.out.fx.size (.cells #[.string (bs T),.string (bs []),.int .u8 ((0:UInt8).toNat:Int),.slice none 0 0] 203));have HSA:Hid (w.heap.size≤(wb.alloc (.cells #[.string (bs T),.string (bs []),.int .u8 ((0:UInt8).toNat:Int),.slice none 0 0] 203)).heap.size):=hY (Jg HB_.out.fx.size (by rw [Jb];omega));have HPU:=hY (fun (w1:World) (lv':Value) a1 a2 a3=>HB_.out.push1 (w1:=w1) (lv':=lv') (t:=T) (nm:=[]) (op:=0) (A:=none) (m:=0) (c:=0) (ys:=[]) (.cells #[.string (bs T),.string (bs []),.int .u8 ((0:UInt8).toNat:Int),.slice none 0 0] 203) hTl (by simp) (by omega) yz PC.nil a1 a2 a3);go_wp2_with (at_builtin;refine zg rfl _ _ _ rfl Yi w.heap.size _ _ _ rfl HOA.out _ 1 1 [.string (bs T),.string (bs []),.int .u8 ((0:UInt8).toNat:Int),.slice none 0 0] rfl rfl HNW.out (zr rfl) (by omega) (by omega) HBA.out HSA.out ?_;intro v6 w6 ho6 _ hg6 hat6;have h6:=HPU.out w6 v6 hg6 ho6 hat6;obtain ⟨A6,c6,rfl⟩:=zc ho6;clear ho6 hg6 hat6);have H6:=hY h6;clear h6 HNW HOA HBA HSA HPU HB_;rw [hqq] at HN;go_roundg (s.length+2 - q)
             case measure=>omega
             case rel=>exact ⟨q,_,v1,_,_,H6.out,by omega,.inl ⟨rfl,by omega,HN.out⟩,by omega⟩))
  · have i0:decide ((p:Int)<((bs s).size:Int))=false:=by rw [Ka];have:=HZ.out;omega
    have i0n:decide (p<(bs s).size)=false:=by rw [Ka];have:=HZ.out;omega
    go_upto_region 2 with fail;go_region
    all_goals (
     have H1:=hY HL.out.drew;obtain ⟨w1,hw⟩:∃ y,wr.drew=y:=⟨_,rfl⟩
     rw [hw] at H1;rw [hw];clear hw;clear c0 c1 c2 cf i0 i0n HL;cases b with
     | true =>obtain rfl:k=.braces:=HK.out;have HD:=hY (W4 HLP.out hin (show Ex.endR .braces=.inl 4 from rfl) (by decide));have HWR:=hY (yA s hs p e no 4 v1 R w1 H1.out.rs.1);go_wp2_with fail;refine HWR.out.mono ?_;rintro a w2 ⟨rfl,hb2,hf2⟩;have H2:=hY (H1.out.to hf2 (by omega) hb2);clear hb2 hf2 HWR;go_wp2_with fail;go_ret;exact ⟨_,_,v1,_,n,xs,rfl,H2.out,by omega,HD.out⟩
     | false =>obtain rfl:k=.plain:=HK.out;have HD:=hY (QV HLP.out hin rfl rfl);go_wp2_with fail;go_ret;exact ⟨_,_,v1,_,n,xs,rfl,H1.out,by omega,HD.out⟩)
end Go.Proofs.YtdaejggcjjdhkaaGreatDoor
