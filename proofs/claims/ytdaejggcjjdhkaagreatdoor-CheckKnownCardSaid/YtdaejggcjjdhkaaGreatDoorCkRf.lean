/- strataref15's quoted, walked. (Printed by wip/genqt.py.) -/
import Derived.Test.YtdaejggcjjdhkaaGreatDoorCkLt
import Derived.Deep.LoopGhost
import Derived.Deep.DeepCutAuto
set_option maxHeartbeats 4000000
set_option maxRecDepth 100000
namespace Go.Proofs.YtdaejggcjjdhkaaGreatDoor
open Go Go.RowKit
theorem zH (c k:UInt8):((c.toNat:Int)==(k.toNat:Int))=(c==k):=by have:=zO c k;rw [bne] at this;cases h:((c.toNat:Int)==(k.toNat:Int)) <;> cases h2:(c==k) <;> simp_all
theorem X0 {s:List UInt8} {e:UInt8} (hs:s.length≤2000000) {p0:Nat} (hp0:p0≤s.length) (HV:∀ (p:Nat) (R:Nat) (v:Value) (w:World),p0≤p→p<s.length→RS15 w R s p e 0 v→Calls Tryz.prog 182 #[.pointer (some ⟨R,0,none⟩)] w (Ya w R s p e v (Ex.er (Ex.vR e (s.drop (p+1))))))
  {w:World} {R:Nat} {v:Value} (h:RS15 w R s p0 e 0 v) {X:Ex.E} (H:Hid (Ex.er (Ex.readL e .quoted (s.drop p0))=X)):
  Calls Tryz.prog 185 #[.pointer (some ⟨R,0,none⟩)] w (XO .quoted w R s p0 e v X):=by
 have HVR:=hY HV;have H0:Hid (L15 w w R s p0 e 0 v v (.slice none 0 0) 0 []∧YA .quoted s e X 0 p0):=hY ⟨L15.start h,.inl ⟨rfl,hp0,H.out⟩⟩;have hz:=zd s;have HZ:=hY hz;have hs2:(bs s).size≤2000000:=by omega
 clear HV hz h H;go_enter Tryz.func185,Tryz.ntmps185;go_wp2_with fail;go_loopg [3] (s.length+2 - p0) (fun gk tl wx=>∃ (p:Nat) (no:Int) (v1:Value) (n:Nat) (xs:List Value),L15 w wx R s p e no v v1 tl n xs∧n+p0≤p∧YA .quoted s e X no p∧s.length+1 - p<gk)
 case atStart=>exact ⟨p0,0,v,0,[],H0.out.1,by omega,H0.out.2,by omega⟩
 case round =>
  as_aux_lemma =>
  clear H0;rename World=>wr;obtain ⟨p,no,v1,n,xs,hL,hnp,hlp,hgk⟩:=hrel;obtain ⟨A1,k1,rfl⟩:=zc hL.own;have hpl:=Y3 hlp;have HL:=hY hL;have HLP:=hY hlp;clear hL hlp;have j0:(0:Int)≤(p:Int):=by omega
  have c0:wr.cell? ⟨R,0,none⟩=some (.string (bs s)):=HL.out.rs.1.cell 0;have c1:wr.cell? ⟨R,1,none⟩=some (.int .i64 (p:Int)):=HL.out.rs.1.cell 1;have c2:wr.cell? ⟨R,2,none⟩=some (.int .u8 (e.toNat:Int)):=HL.out.rs.1.cell 2;have cf:=HL.out.rs.1.frozen 1;have hRw:R<w.heap.size:=HL.out.lt;rcases Jh p s.length with hin | hin
  · have hin2:p<(bs s).size:=by rw [HZ.out];exact hin
    have i0:decide ((p:Int)<((bs s).size:Int))=true:=dT (by omega);have i1:(p:Int)<((bs s).size:Int):=by omega
    obtain ⟨rfl,hrl⟩:=QW HLP.out hin;have HRL:=hY hrl;clear hrl HLP;obtain ⟨c,hc⟩:∃ c,(bs s)[p]'hin2=c:=⟨_,rfl⟩
    have HC:Hid (s[p]?=some c):=hY (by rw [yy s p hin2,hc]);have hcb:c.toNat<256:=Jm _;go_upto_region 2 with fail;go_region
    all_goals (
     have H1:=hY HL.out.drew;obtain ⟨w1,hw⟩:∃ y,wr.drew=y:=⟨_,rfl⟩
     rw [hw] at H1;rw [hw];clear hw;clear c0 c1 c2 cf;have c0:w1.cell? ⟨R,0,none⟩=some (.string (bs s)):=H1.out.rs.1.cell 0;have c1:w1.cell? ⟨R,1,none⟩=some (.int .i64 (p:Int)):=H1.out.rs.1.cell 1;have c2:w1.cell? ⟨R,2,none⟩=some (.int .u8 (e.toNat:Int)):=H1.out.rs.1.cell 2;have cf:=H1.out.rs.1.frozen 1;go_upto_region 3 with fail;go_region
     all_goals (
      have H2:=hY H1.out.drew;obtain ⟨w2,hw⟩:∃ y,w1.drew=y:=⟨_,rfl⟩
      rw [hw] at H2;rw [hw];clear hw;clear c0 c1 c2 cf i0 i1 hc H1 HL;obtain ⟨d,hd⟩:∃ d,Hid (s.getD (p+1) 0=d):=⟨_,hY rfl⟩
      obtain ⟨mo,hmo⟩:∃ b,Hid (decide (p+1<s.length)=b):=⟨_,hY rfl⟩
      have HNX:=hY (ZZ s hs p (by omega) e 0 v1 R w2 H2.out.rs.1);rw [hd.out,hmo.out] at HNX;go_wp2_with fail;refine HNX.out.mono ?_;rintro a w3 ⟨rfl,b3⟩;have H3:=hY (H2.out.new b3);clear b3 HNX H2;have hdb:d.toNat<256:=Jm _;obtain ⟨y,hy⟩:∃ y,Hid (Xr .quoted e s p=y):=⟨_,hY rfl⟩
      obtain ⟨q0,t0⟩:∃ b,((c.toNat:Int)==(e.toNat:Int))=b:=⟨_,rfl⟩
      have HQ0:Hid ((c==e)=q0):=hY (by rw [←zH,t0]);have c0:w3.cell? ⟨R,0,none⟩=some (.string (bs s)):=H3.out.rs.1.cell 0;have c1:w3.cell? ⟨R,1,none⟩=some (.int .i64 (p:Int)):=H3.out.rs.1.cell 1;have c2:w3.cell? ⟨R,2,none⟩=some (.int .u8 (e.toNat:Int)):=H3.out.rs.1.cell 2;have cf:=H3.out.rs.1.frozen 1;obtain ⟨d34,ed34⟩:∃ b,((d.toNat:Int)==34)=b:=⟨_,rfl⟩
      obtain ⟨d36,ed36⟩:∃ b,((d.toNat:Int)==36)=b:=⟨_,rfl⟩
      obtain ⟨de,ede⟩:∃ b,((d.toNat:Int)==(e.toNat:Int))=b:=⟨_,rfl⟩
      have HY:Hid (y=(mo&&(d34||d36||de))):=hY (by
       have ae:(d==e)=de:=by rw [←zH,ede]
       have a34:(d==34)=d34:=by rw [←ed34,show (34:Int)=(((34:UInt8).toNat:Nat):Int) from rfl,zH]
       have a36:(d==36)=d36:=by rw [←ed36,show (36:Int)=(((36:UInt8).toNat:Nat):Int) from rfl,zH]
       rw [←hy.out,Xr,hmo.out,hd.out];show (mo&&(d==34||d==36||d==e))=_;rw [a34,a36,ae])
      go_upto_region 6 with fail;go_cut [36] from 37 to 61 (fun sy wx=>sy=.bool (q0&&y)∧w3=wx)
      case first =>
       as_aux_lemma =>
       cases q0 with
       | false =>go_wp2_with fail;go_meet;exact ⟨by rfl,by trivial⟩
       | true =>
        cases mo with
        | false =>go_wp2_with fail;go_meet;exact ⟨by rw [HY.out];rfl,by trivial⟩
        | true =>
         cases d34 <;> cases d36 <;> cases de <;> (
          go_wp2_with fail;go_meet;exact ⟨by rw [HY.out];rfl,by trivial⟩)
      case rest =>
       obtain ⟨rfl,rfl⟩:=hcut;clear c0 c1 c2 cf hdb HY hmo hd ed34 ed36 ede;cases q0 with
       | true =>
        have hce:e=c:=(Jx.1 HQ0.out).symm;subst hce;cases y with
        | true =>
         obtain ⟨hp2,hnext⟩:=VP HC.out hy.out HRL.out;have HN:=hY hnext;clear hnext;have c0:w3.cell? ⟨R,0,none⟩=some (.string (bs s)):=H3.out.rs.1.cell 0;have c1:w3.cell? ⟨R,1,none⟩=some (.int .i64 (p:Int)):=H3.out.rs.1.cell 1;have c2:w3.cell? ⟨R,2,none⟩=some (.int .u8 (e.toNat:Int)):=H3.out.rs.1.cell 2;have cf:=H3.out.rs.1.frozen 1;obtain ⟨q,hqq⟩:∃ qx,p+1=qx:=⟨_,rfl⟩
         have hqi:(p:Int)+1=(q:Int):=by omega
         have H4:=hY (H3.out.at_ (q:=q) (by omega));go_upto_region 8 with fail;obtain ⟨w4,hw⟩:∃ y,w3.setCell ⟨R,1,none⟩ (.int .i64 (q:Int))=y:=⟨_,rfl⟩
         rw [hw] at H4;rw [hw];clear hw;clear c0 c1 c2 cf hqi H3;obtain ⟨q2,hqq2⟩:∃ qx,q+1=qx:=⟨_,rfl⟩
         have HBY:=hY (zF s hs q 1 (by omega) e 0 v1 R w4 H4.out.rs.1);go_wp2_with fail;refine HBY.out.mono ?_;rintro a wb ⟨rfl,hbb,hfb⟩;rw [hqq2] at hbb;have HB_:=hY (H4.out.to hfb (by omega) hbb);clear hbb hfb HBY H4;obtain ⟨T,hT⟩:∃ T,(s.drop q).take 1=T:=⟨_,rfl⟩
         have hTl:T.length≤2000000:=by rw [←hT,Kt,Jn];omega
         rw [hT];clear hT;have HNW:=hY (zA wb wb.heap.size rfl [.string (bs T),.string (bs []),.int .u8 ((0:UInt8).toNat:Int),.slice none 0 0] 203);have HOA:=hY (HB_.out.own.alloc (.cells #[.string (bs T),.string (bs []),.int .u8 ((0:UInt8).toNat:Int),.slice none 0 0] 203));have HBA:=hY ((Ja w.heap.size wb).alloc HB_.out.fx.size (.cells #[.string (bs T),.string (bs []),.int .u8 ((0:UInt8).toNat:Int),.slice none 0 0] 203));have HSA:Hid (w.heap.size≤(wb.alloc (.cells #[.string (bs T),.string (bs []),.int .u8 ((0:UInt8).toNat:Int),.slice none 0 0] 203)).heap.size):=hY (Jg HB_.out.fx.size (by rw [Jb];omega));have HPU:=hY (fun (w1:World) (lv':Value) a1 a2 a3=>HB_.out.push1 (w1:=w1) (lv':=lv') (t:=T) (nm:=[]) (op:=0) (A:=none) (m:=0) (c:=0) (ys:=[]) (.cells #[.string (bs T),.string (bs []),.int .u8 ((0:UInt8).toNat:Int),.slice none 0 0] 203) hTl (by simp) (by omega) yz PC.nil a1 a2 a3);go_wp2_with (at_builtin;refine zg rfl _ _ _ rfl Yi w.heap.size _ _ _ rfl HOA.out _ 1 1 [.string (bs T),.string (bs []),.int .u8 ((0:UInt8).toNat:Int),.slice none 0 0] rfl rfl HNW.out (zr rfl) (by omega) (by omega) HBA.out HSA.out ?_;intro v6 w6 ho6 _ hg6 hat6;have h6:=HPU.out w6 v6 hg6 ho6 hat6;obtain ⟨A6,c6,rfl⟩:=zc ho6;clear ho6 hg6 hat6);have H6:=hY h6;clear h6 HNW HOA HBA HSA HPU HB_;rw [show p+2=q2 by omega] at HN;go_roundg (s.length+2 - q2)
         case measure=>omega
         case rel=>exact ⟨q2,_,v1,_,_,H6.out,by omega,.inl ⟨rfl,by omega,HN.out⟩,by omega⟩
        | false =>
         have HN:=hY (Yq HC.out hy.out HRL.out);have c0:w3.cell? ⟨R,0,none⟩=some (.string (bs s)):=H3.out.rs.1.cell 0;have c1:w3.cell? ⟨R,1,none⟩=some (.int .i64 (p:Int)):=H3.out.rs.1.cell 1;have c2:w3.cell? ⟨R,2,none⟩=some (.int .u8 (e.toNat:Int)):=H3.out.rs.1.cell 2;have cf:=H3.out.rs.1.frozen 1;go_upto_region 10 with fail;clear c0 c1 c2 cf;obtain ⟨q,hqq⟩:∃ qx,p+1=qx:=⟨_,rfl⟩
         have HBY:=hY (zF s hs p 1 (by omega) e 0 v1 R w3 H3.out.rs.1);go_wp2_with fail;refine HBY.out.mono ?_;rintro a wb ⟨rfl,hbb,hfb⟩;rw [hqq] at hbb;have HB_:=hY (H3.out.to hfb (by omega) hbb);clear hbb hfb HBY H3;obtain ⟨T,hT⟩:∃ T,(s.drop p).take 1=T:=⟨_,rfl⟩
         have hTl:T.length≤2000000:=by rw [←hT,Kt,Jn];omega
         rw [hT];clear hT;have HNW:=hY (zA wb wb.heap.size rfl [.string (bs T),.string (bs []),.int .u8 ((0:UInt8).toNat:Int),.slice none 0 0] 203);have HOA:=hY (HB_.out.own.alloc (.cells #[.string (bs T),.string (bs []),.int .u8 ((0:UInt8).toNat:Int),.slice none 0 0] 203));have HBA:=hY ((Ja w.heap.size wb).alloc HB_.out.fx.size (.cells #[.string (bs T),.string (bs []),.int .u8 ((0:UInt8).toNat:Int),.slice none 0 0] 203));have HSA:Hid (w.heap.size≤(wb.alloc (.cells #[.string (bs T),.string (bs []),.int .u8 ((0:UInt8).toNat:Int),.slice none 0 0] 203)).heap.size):=hY (Jg HB_.out.fx.size (by rw [Jb];omega));have HPU:=hY (fun (w1:World) (lv':Value) a1 a2 a3=>HB_.out.push1 (w1:=w1) (lv':=lv') (t:=T) (nm:=[]) (op:=0) (A:=none) (m:=0) (c:=0) (ys:=[]) (.cells #[.string (bs T),.string (bs []),.int .u8 ((0:UInt8).toNat:Int),.slice none 0 0] 203) hTl (by simp) (by omega) yz PC.nil a1 a2 a3);go_wp2_with (at_builtin;refine zg rfl _ _ _ rfl Yi w.heap.size _ _ _ rfl HOA.out _ 1 1 [.string (bs T),.string (bs []),.int .u8 ((0:UInt8).toNat:Int),.slice none 0 0] rfl rfl HNW.out (zr rfl) (by omega) (by omega) HBA.out HSA.out ?_;intro v6 w6 ho6 _ hg6 hat6;have h6:=HPU.out w6 v6 hg6 ho6 hat6;obtain ⟨A6,c6,rfl⟩:=zc ho6;clear ho6 hg6 hat6);have H6:=hY h6;clear h6 HNW HOA HBA HSA HPU HB_;rw [hqq] at HN;go_roundg (s.length+2 - q)
         case measure=>omega
         case rel=>exact ⟨q,_,v1,_,_,H6.out,by omega,.inl ⟨rfl,by omega,HN.out⟩,by omega⟩
       | false =>
        rw [Bool.false_and];have hce:c≠e:=by have:=HQ0.out;rw [Jr] at this;exact this
        have HCE:=hY hce;clear hce hy;obtain ⟨z34,e34⟩:∃ b,((c.toNat:Int)==34)=b:=⟨_,rfl⟩
        have HC34:Hid ((c==34)=z34):=hY (by rw [←e34,show (34:Int)=(((34:UInt8).toNat:Nat):Int) from rfl,zH]);obtain ⟨z36,e36⟩:∃ b,((c.toNat:Int)==36)=b:=⟨_,rfl⟩
        have HC36:Hid ((c==36)=z36):=hY (by rw [←e36,show (36:Int)=(((36:UInt8).toNat:Nat):Int) from rfl,zH]);have c0:w3.cell? ⟨R,0,none⟩=some (.string (bs s)):=H3.out.rs.1.cell 0;have c1:w3.cell? ⟨R,1,none⟩=some (.int .i64 (p:Int)):=H3.out.rs.1.cell 1;have c2:w3.cell? ⟨R,2,none⟩=some (.int .u8 (e.toNat:Int)):=H3.out.rs.1.cell 2;have cf:=H3.out.rs.1.frozen 1;cases z34 with
        | true =>
         have hct:c=34:=Jx.1 HC34.out;subst hct;go_upto_region 12 with fail;clear c0 c1 c2 cf;have hX:=Ut HC.out HCE.out (by decide) rfl HRL.out;have c0:w3.cell? ⟨R,0,none⟩=some (.string (bs s)):=H3.out.rs.1.cell 0;have c1:w3.cell? ⟨R,1,none⟩=some (.int .i64 (p:Int)):=H3.out.rs.1.cell 1;have c2:w3.cell? ⟨R,2,none⟩=some (.int .u8 (e.toNat:Int)):=H3.out.rs.1.cell 2;have cf:=H3.out.rs.1.frozen 1;obtain ⟨q,hqq⟩:∃ qx,p+1=qx:=⟨_,rfl⟩
         have hqi:(p:Int)+1=(q:Int):=by omega
         have H4:=hY (H3.out.at_ (q:=q) (by omega));go_upto_region 13 with fail;obtain ⟨w4,hw⟩:∃ y,w3.setCell ⟨R,1,none⟩ (.int .i64 (q:Int))=y:=⟨_,rfl⟩
         rw [hw] at H4;rw [hw];clear hw;clear c0 c1 c2 cf hqi H3;go_wp2_with fail;go_ret;rw [hX,hqq];exact ⟨q,0,v1,_,n,xs,rfl,H4.out,by omega,rfl,by show _+_+0=_;rw [Jn];omega⟩
        | false =>
         cases z36 with
         | true =>
          have hct:c=36:=Jx.1 HC36.out;subst hct;go_upto_region 15 with fail;clear c0 c1 c2 cf;have c0:w3.cell? ⟨R,0,none⟩=some (.string (bs s)):=H3.out.rs.1.cell 0;have c1:w3.cell? ⟨R,1,none⟩=some (.int .i64 (p:Int)):=H3.out.rs.1.cell 1;have c2:w3.cell? ⟨R,2,none⟩=some (.int .u8 (e.toNat:Int)):=H3.out.rs.1.cell 2;have cf:=H3.out.rs.1.frozen 1;go_upto_region 15 with fail;clear c0 c1 c2 cf;have HVA:=hY (HVR.out p R v1 w3 (by omega) hin H3.out.rs);go_wp2_with fail;refine HVA.out.mono ?_;rintro a w5 ⟨p',no',v5,t,nm,op,A,m,cc,ys,rfl,hrs,hnw,hfx,ht,hnm,hm,hrw,hpc,hpp,hdn⟩;have hlp5:=VO (k:=.quoted) HCE.out HC.out HRL.out hdn;have hpb:=Y3 hlp5;have HLP5:=hY hlp5;have H5:=hY (H3.out.go hrs hnw hfx);have hX:∀ b,b<w5.heap.size→False∨(b<w.heap.size∨v5.ownBlock=some b∨(Value.slice A1 n k1).ownBlock=some b)→b<w3.heap.size∨v5.ownBlock=some b:=fun b _ h=>by
           rcases h with h | h | h | h
           · exact h.elim
           · exact .inl (Nat.lt_of_lt_of_le h H3.out.fx.size)
           · exact .inr h
           · exact .inl (H3.out.own.lt b h).2
          have HRW:=hY (hrw.fx (S:=fun _=>False) Fx.refl hX);have HPC:=hY (hpc.fx (S:=fun _=>False) Fx.refl hX);clear hrs hnw hfx hrw hpc hdn hlp5 hX HVA H3;have HNW:=hY (zA w5 w5.heap.size rfl [.string (bs t),.string (bs nm),.int .u8 ((op:UInt8).toNat:Int),.slice A m cc] 203);have HOA:=hY (H5.out.own.alloc (.cells #[.string (bs t),.string (bs nm),.int .u8 ((op:UInt8).toNat:Int),.slice A m cc] 203));have HBA:=hY ((Ja w.heap.size w5).alloc H5.out.fx.size (.cells #[.string (bs t),.string (bs nm),.int .u8 ((op:UInt8).toNat:Int),.slice A m cc] 203));have HSA:Hid (w.heap.size≤(w5.alloc (.cells #[.string (bs t),.string (bs nm),.int .u8 ((op:UInt8).toNat:Int),.slice A m cc] 203)).heap.size):=hY (Jg H5.out.fx.size (by rw [Jb];omega));have HPU:=hY (fun (w1:World) (lv':Value) a1 a2 a3=>H5.out.push1 (w1:=w1) (lv':=lv') (t:=t) (nm:=nm) (op:=op) (A:=A) (m:=m) (c:=cc) (ys:=ys) (.cells #[.string (bs t),.string (bs nm),.int .u8 ((op:UInt8).toNat:Int),.slice A m cc] 203) ht hnm hm HRW.out HPC.out a1 a2 a3);go_wp2_with (at_builtin;refine zg rfl _ _ _ rfl Yi w.heap.size _ _ _ rfl HOA.out _ 1 1 [.string (bs t),.string (bs nm),.int .u8 ((op:UInt8).toNat:Int),.slice A m cc] rfl rfl HNW.out (zr rfl) (by omega) (by omega) HBA.out HSA.out ?_;intro v6 w6 ho6 _ hg6 hat6;have h6:=HPU.out w6 v6 hg6 ho6 hat6;obtain ⟨A6,c6,rfl⟩:=zc ho6;clear ho6 hg6 hat6);have H6:=hY h6;clear h6 HNW HOA HBA HSA HPU H5;go_roundg (s.length+2 - p')
          case measure=>omega
          case rel=>exact ⟨p',_,v5,_,_,H6.out,by omega,HLP5.out,by omega⟩
         | false =>
          go_upto_region 5 with fail;clear c0 c1 c2 cf;have HN:=hY (Wa HC.out HCE.out (by have:=HC36.out;rwa [Jr] at this) (by show (c==34)=false;exact HC34.out) rfl HRL.out);have c0:w3.cell? ⟨R,0,none⟩=some (.string (bs s)):=H3.out.rs.1.cell 0;have c1:w3.cell? ⟨R,1,none⟩=some (.int .i64 (p:Int)):=H3.out.rs.1.cell 1;have c2:w3.cell? ⟨R,2,none⟩=some (.int .u8 (e.toNat:Int)):=H3.out.rs.1.cell 2;have cf:=H3.out.rs.1.frozen 1;go_upto_region 5 with fail;clear c0 c1 c2 cf;obtain ⟨q,hqq⟩:∃ qx,p+1=qx:=⟨_,rfl⟩
          have HBY:=hY (zF s hs p 1 (by omega) e 0 v1 R w3 H3.out.rs.1);go_wp2_with fail;refine HBY.out.mono ?_;rintro a wb ⟨rfl,hbb,hfb⟩;rw [hqq] at hbb;have HB_:=hY (H3.out.to hfb (by omega) hbb);clear hbb hfb HBY H3;obtain ⟨T,hT⟩:∃ T,(s.drop p).take 1=T:=⟨_,rfl⟩
          have hTl:T.length≤2000000:=by rw [←hT,Kt,Jn];omega
          rw [hT];clear hT;have HNW:=hY (zA wb wb.heap.size rfl [.string (bs T),.string (bs []),.int .u8 ((0:UInt8).toNat:Int),.slice none 0 0] 203);have HOA:=hY (HB_.out.own.alloc (.cells #[.string (bs T),.string (bs []),.int .u8 ((0:UInt8).toNat:Int),.slice none 0 0] 203));have HBA:=hY ((Ja w.heap.size wb).alloc HB_.out.fx.size (.cells #[.string (bs T),.string (bs []),.int .u8 ((0:UInt8).toNat:Int),.slice none 0 0] 203));have HSA:Hid (w.heap.size≤(wb.alloc (.cells #[.string (bs T),.string (bs []),.int .u8 ((0:UInt8).toNat:Int),.slice none 0 0] 203)).heap.size):=hY (Jg HB_.out.fx.size (by rw [Jb];omega));have HPU:=hY (fun (w1:World) (lv':Value) a1 a2 a3=>HB_.out.push1 (w1:=w1) (lv':=lv') (t:=T) (nm:=[]) (op:=0) (A:=none) (m:=0) (c:=0) (ys:=[]) (.cells #[.string (bs T),.string (bs []),.int .u8 ((0:UInt8).toNat:Int),.slice none 0 0] 203) hTl (by simp) (by omega) yz PC.nil a1 a2 a3);go_wp2_with (at_builtin;refine zg rfl _ _ _ rfl Yi w.heap.size _ _ _ rfl HOA.out _ 1 1 [.string (bs T),.string (bs []),.int .u8 ((0:UInt8).toNat:Int),.slice none 0 0] rfl rfl HNW.out (zr rfl) (by omega) (by omega) HBA.out HSA.out ?_;intro v6 w6 ho6 _ hg6 hat6;have h6:=HPU.out w6 v6 hg6 ho6 hat6;obtain ⟨A6,c6,rfl⟩:=zc ho6;clear ho6 hg6 hat6);have H6:=hY h6;clear h6 HNW HOA HBA HSA HPU HB_;rw [hqq] at HN;go_roundg (s.length+2 - q)
          case measure=>omega
          case rel=>exact ⟨q,_,v1,_,_,H6.out,by omega,.inl ⟨rfl,by omega,HN.out⟩,by omega⟩))
  · have i0:decide ((p:Int)<((bs s).size:Int))=false:=by rw [Ka];have:=HZ.out;omega
    have i0n:decide (p<(bs s).size)=false:=by rw [Ka];have:=HZ.out;omega
    go_upto_region 2 with fail;go_region
    all_goals (
     have H1:=hY HL.out.drew;obtain ⟨w1,hw⟩:∃ y,wr.drew=y:=⟨_,rfl⟩
     rw [hw] at H1;rw [hw];clear hw;clear c0 c1 c2 cf i0 i0n HL;have HD:=hY (W4 HLP.out hin (show Ex.endR .quoted=.inl 18 from rfl) (by decide));have HWR:=hY (yA s hs p e no 18 v1 R w1 H1.out.rs.1);go_wp2_with fail;refine HWR.out.mono ?_;rintro a w2 ⟨rfl,hb2,hf2⟩;have H2:=hY (H1.out.to hf2 (by omega) hb2);clear hb2 hf2 HWR;go_wp2_with fail;go_ret;exact ⟨_,_,v1,_,n,xs,rfl,H2.out,by omega,HD.out⟩)
end Go.Proofs.YtdaejggcjjdhkaaGreatDoor
