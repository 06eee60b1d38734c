/- strataref15's variable, walked. (Printed by wip/genvar.py.) -/
import Derived.Test.YtdaejggcjjdhkaaGreatDoorCkLt
set_option maxHeartbeats 2000000
set_option maxRecDepth 100000
namespace Go.Proofs.YtdaejggcjjdhkaaGreatDoor
open Go Go.RowKit
theorem ZG (c k:UInt8):((c.toNat:Int)==(k.toNat:Int))=(c==k):=by have:=zO c k;rw [bne] at this;cases h:((c.toNat:Int)==(k.toNat:Int)) <;> cases h2:(c==k) <;> simp_all
theorem Zu {s:List UInt8} {e:UInt8} {p:Nat} (hs:s.length≤2000000) (hp:p<s.length)
  (IH:∀ (p':Nat) (R:Nat) (v:Value) (w:World),p<p'→p'≤s.length→RS15 w R s p' e 0 v→Calls Tryz.prog 157 #[.pointer (some ⟨R,0,none⟩),.bool true] w (XO .braces w R s p' e v (Ex.er (Ex.readL e .braces (s.drop p')))))
  {w:World} {R:Nat} {v:Value} (h:RS15 w R s p e 0 v) {x:Ex.E} (H:Hid (Ex.er (Ex.vR e (s.drop (p+1)))=x)):
  Calls Tryz.prog 182 #[.pointer (some ⟨R,0,none⟩)] w (Ya w R s p e v x):=by
 have H1:=hY (V15.start h #[.string ⟨#[]⟩,.string ⟨#[]⟩,.int .u8 0,.slice none 0 0]);have HI:=hY IH;have h0:=h.1.cell 1;clear IH;have h2:=h;clear h;obtain ⟨r,hr⟩:∃ r,Hid (s.drop (p+1)=r):=⟨_,hY rfl⟩
 have hrl:r.length+p+1=s.length:=by rw [←hr.out,Jn];omega
 have HX:Hid (Ex.er (Ex.vR e r)=x):=hY (by rw [←hr.out];exact H.out);obtain ⟨n,hn⟩:∃ n,Hid (Ex.nmL r=n):=⟨_,hY rfl⟩
 have hnl:n≤r.length:=by have:=Ex.nm_le r;rw [hn.out] at this;exact this
 obtain ⟨N,hN⟩:∃ N,Hid (r.take n=N):=⟨_,hY rfl⟩
 have hNl:N.length=n:=by rw [←hN.out,Kt];omega
 have HZR:Hid ((bs r).size=r.length):=hY (zd r);have hz:=zd s;have hs2:(bs s).size≤2000000:=by omega
 have hpl:(p:Int)+1≤((bs s).size:Int):=by omega
 have sl:∀ wx,(Instr.slice 9 (.string (bs s)) (some (.int .i64 ((p:Int)+1))) none none).run Tryz.prog wx=.ok (.string (bs r)) wx:=by
  have:=z9 s (p+1) ((p:Int)+1) (by omega) (by omega)
  rwa [hr.out] at this
 clear H hz h0;have d0:(w.alloc (.cells #[.string ⟨#[]⟩,.string ⟨#[]⟩,.int .u8 0,.slice none 0 0] 203)).cell? ⟨R,0,none⟩=some (.string (bs s)):=H1.out.rs.1.cell 0;have d1:(w.alloc (.cells #[.string ⟨#[]⟩,.string ⟨#[]⟩,.int .u8 0,.slice none 0 0] 203)).cell? ⟨R,1,none⟩=some (.int .i64 (p:Int)):=H1.out.rs.1.cell 1;clear h2;go_enter Tryz.func182,Tryz.ntmps182;go_upto_region 1 with fail;go_region
 all_goals (
  have H2:=hY H1.out.drew;obtain ⟨w2,hw2⟩:∃ y,(w.alloc (.cells #[.string ⟨#[]⟩,.string ⟨#[]⟩,.int .u8 0,.slice none 0 0] 203)).drew=y:=⟨_,rfl⟩
  rw [hw2] at H2;rw [hw2];clear hw2 H1 d0 d1 sl hpl;have hR2:R<w.heap.size:=H2.out.lt;go_upto_region 2 with fail;go_wp2_with fail;refine (Z1 r (by omega) _ hn).mono ?_;rintro a wv ⟨rfl,rfl⟩;rcases Ju n with h0 | h0
  · subst h0;obtain ⟨b,hb⟩:∃ b,Hid (([123]:List UInt8).isPrefixOf r=b):=⟨_,hY rfl⟩
    have hzr:=HZR.out;cases b with
    | false =>
     have HXV:Hid (x=.inr r):=hY (by rw [←HX.out,Ex.vR_dollar hn.out hb.out];rfl);have HBY:=hY (zF s hs p 1 (by omega) e 0 v R w2 H2.out.rs.1);go_upto_region 7 with fail;go_cut [46] from 39 to 46 (fun s46 wx=>s46=.bool true∧w2=wx)
     case first =>
      rcases Ju r.length with hr0 | hr0
      · have q0:(((bs r).size:Int)==0)=true:=bT (by omega);clear hzr;go_wp2_with fail;go_meet;exact ⟨by trivial,by trivial⟩
      · have q0:(((bs r).size:Int)==0)=false:=bF (by omega);have q1:0<(bs r).size:=by omega
        have q2:(0:Int)<((bs r).size:Int):=by omega
        obtain ⟨c,hc⟩:∃ c,(bs r)[0]'q1=c:=⟨_,rfl⟩
        have hcb:c.toNat<256:=Jm _;have hcn:(c==123)=false:=by
         have g:=yy r 0 q1;rw [hc] at g;have hb:=hb.out;cases r with
         | nil=>cases g
         | cons c' r' =>injection g with g;subst g;simp only [List.isPrefixOf,Bool.and_true] at hb;rw [Jr] at hb ⊢;exact fun h=>hb h.symm
        have q3:((c.toNat:Int)==123)=false:=by rw [show (123:Int)=(((123:UInt8).toNat:Nat):Int) from rfl,ZG];exact hcn
        have q4:((c.toNat:Int) != 123)=true:=by rw [bne,q3];rfl
        clear hzr hcn;go_wp2_with fail;go_meet;exact ⟨by trivial,by trivial⟩
     case rest =>obtain ⟨rfl,rfl⟩:=hcut;clear hzr;go_wp2_with fail;refine HBY.out.mono ?_;rintro a w3 ⟨rfl,hb3,hf3⟩;have H3:=hY (H2.out.to hf3 (by omega) hb3);have HTK:Hid ((s.drop p).take 1=((s.drop p).take 1)):=hY rfl;clear hb3 hf3 HBY;go_wp2_with (refine ze rfl _ _ _ rfl yx w.heap.size #[.string (bs ((s.drop p).take 1)),.string ⟨#[]⟩,.int .u8 0,.slice none 0 0] #[.string ⟨#[]⟩,.string ⟨#[]⟩,.int .u8 0,.slice none 0 0] rfl rfl H3.out.kz rfl rfl rfl ?_;intro wz hKz hGz _);have HZ9:=H3.out.grow hGz hKz;exact bodyPost_ret (zo rfl yx rfl hKz rfl) rfl (by rw [HXV.out];exact HZ9.flat (nm:=[]) (op:=0) (by rw [Kt];omega) (by simp) (by omega) ⟨rfl,by show _+_+0=_;omega⟩)
    | true =>
     obtain ⟨t,rfl⟩:∃ t,r=123::t:=by have:=hb.out;rw [List.isPrefixOf_iff_prefix] at this;obtain ⟨t,ht⟩:=this;exact ⟨t,ht.symm⟩
     have hlen:(123::t).length=t.length+1:=rfl;rw [hlen] at hrl hnl hzr;have HT:Hid (s.drop (p+2)=t):=hY (by rw [←List.drop_drop (i:=1) (j:=p+1),hr.out];rfl);obtain ⟨n2,hn2⟩:∃ n,Hid (Ex.nmL t=n):=⟨_,hY rfl⟩
     have hnl2:n2≤t.length:=by have:=Ex.nm_le t;rw [hn2.out] at this;exact this
     obtain ⟨N2,hN2⟩:∃ N,Hid (t.take n2=N):=⟨_,hY rfl⟩
     have HNL2:Hid (N2.length=n2):=hY (by rw [←hN2.out,Kt];omega);obtain ⟨u,hu⟩:∃ u,Hid (t.drop n2=u):=⟨_,hY rfl⟩
     have HUL:Hid (u.length+n2=t.length):=hY (by rw [←hu.out,Jn];omega);have HUD:Hid (s.drop (p+2+n2)=u):=hY (by rw [←List.drop_drop,HT.out,hu.out]);have sl1:∀ wx,(Instr.slice 9 (.string (bs (123::t))) (some (.int .i64 1)) none none).run Tryz.prog wx=.ok (.string (bs t)) wx:=z9 (123::t) 1 1 rfl (by rw [hlen];omega);have sl2:∀ wx,(Instr.slice 9 (.string (bs (123::t))) (some (.int .i64 1)) (some (.int .i64 (1+(n2:Int)))) none).run Tryz.prog wx=.ok (.string (bs N2)) wx:=by have:=yG (bs (123::t)) 1 (1+n2) 1 (1+(n2:Int)) rfl (by omega) (by omega) (by rw [zd,hlen];omega);rw [Z8,Zh,show 1+n2 - 1=n2 by omega,show (123::t).drop 1=t from rfl,hN2.out] at this;exact this
     have sl3:∀ wx,(Instr.slice 9 (.string (bs (123::t))) (some (.int .i64 (1+(n2:Int)))) none none).run Tryz.prog wx=.ok (.string (bs u)) wx:=by have:=z9 (123::t) (1+n2) (1+(n2:Int)) (by omega) (by rw [hlen];omega);rw [show (123::t).drop (1+n2)=u by rw [←hu.out,Kr,List.drop_succ_cons]] at this;exact this
     have q0:(((bs (123::t)).size:Int)==0)=false:=bF (by omega);have q1:0<(bs (123::t)).size:=by omega
     have q2:(0:Int)<((bs (123::t)).size:Int):=by omega
     have q3:(bs (123::t))[0]'q1=123:=by have:=yy (123::t) 0 q1;exact (Jc this).symm
     have HBR:Hid (x=brE e (Ex.braceL t)):=hY (by rw [←HX.out,Vf]);clear hlen hzr;go_upto_region 9 with fail;go_wp2_with fail;refine (Z1 t (by omega) _ hn2).mono ?_;rintro a wv ⟨rfl,rfl⟩;clear sl1 q0 q1 q2 q3;rcases Ju n2 with h0 | h0
     · subst h0;have HXV:Hid (x=.inl 4):=hY (by rw [HBR.out,Ex.brace_bad (.inl hn2.out)];rfl);have HWR:=hY (yA s hs p e 0 4 v R w2 H2.out.rs.1);go_wp2_with fail;refine HWR.out.mono ?_;rintro a w9 ⟨rfl,hb9,hf9⟩;have H9:=hY (H2.out.to hf9 (by omega) hb9);clear hb9 hf9 HWR;go_wp2_with (refine ze rfl _ _ _ rfl yx w.heap.size #[.string ⟨#[]⟩,.string ⟨#[]⟩,.int .u8 0,.slice none 0 0] #[.string ⟨#[]⟩,.string ⟨#[]⟩,.int .u8 0,.slice none 0 0] rfl rfl H9.out.kz rfl rfl rfl ?_;intro wz hKz hGz _);have HZ9:=H9.out.grow hGz hKz;exact bodyPost_ret (zo rfl yx rfl hKz rfl) rfl (by rw [HXV.out];exact HZ9.flat (t:=[]) (nm:=[]) (op:=0) (by simp) (by simp) (by omega) ⟨rfl,by decide,Jd _,by show _+0≤_;omega⟩)
     · have k0:((n2:Int)==0)=false:=bF (by omega);have k1:(n2==0)=false:=bF (by omega);go_upto_region 14 with fail;have H3:=hY (H2.out.alloc (.cells #[.string ⟨#[]⟩,.string (bs N2),.int .u8 0,.slice none 0 0] 203));have P3:=hY (H2.out.more #[.string ⟨#[]⟩,.string (bs N2),.int .u8 0,.slice none 0 0]);obtain ⟨Y,hY⟩:∃ Y,w2.heap.size=Y:=⟨_,rfl⟩
       obtain ⟨w3,hw3⟩:∃ y,w2.alloc (.cells #[.string ⟨#[]⟩,.string (bs N2),.int .u8 0,.slice none 0 0] 203)=y:=⟨_,rfl⟩
       have hZY:w.heap.size<Y:=by rw [←hY];exact H2.out.kz.lt
       rw [hw3] at H3 P3;rw [hY] at P3;rw [hw3,hY];clear hw3 hY sl2;have y1:w3.cell? ⟨Y,1,none⟩=some (.string (bs N2)):=P3.out.kz.cell 1;have HMT:=hY (XE s p e 0 v R w3 N2 _ H3.out.rs.1 H3.out.rs.2.1 H3.out.rs.2.2 (by omega) (by have:=HNL2.out;omega));go_wp2_with fail;refine HMT.out.mono ?_;rintro a w4 ⟨rfl,v4,hb4,hn4,hv4,hnw4,hf4⟩;obtain ⟨m,hm⟩:∃ m,p+2+n2=m:=⟨_,rfl⟩
       have hmi:(p:Int)+2+(n2:Int)=(m:Int):=by omega
       have HMI:=hY hmi;have H5:=hY (H3.out.go (RS15.after (q:=m) hb4 hn4 hv4 (by omega)) hnw4 (hf4.at15 _));have P5:=hY (P3.out.go (RS15.after (q:=m) hb4 hn4 hv4 (by omega)) hnw4 (hf4.at15 _))
       skip
       have d1:w4.cell? ⟨R,1,none⟩=some (.int .i64 (p:Int)):=hb4.cell 1;have df:=hb4.frozen 1;have hms:m≤s.length:=by have:=HUL.out;omega
       have HUM:Hid (u.length+m=s.length):=hY (by have:=HUL.out;omega);have HUD2:Hid (s.drop m=u):=hY (by rw [←hm];exact HUD.out);clear HMT hb4 hn4 hv4 hnw4 hf4 y1 H3 P3;go_upto_region 17 with fail;obtain ⟨w5,hw5⟩:∃ y,w4.setCell ⟨R,1,none⟩ (.int .i64 (m:Int))=y:=⟨_,rfl⟩
       rw [hw5] at H5 P5;rw [hw5];clear hw5 d1 df sl3 hmi k0 k1;have hn0:Hid (Ex.nmL t≠0):=hY (by rw [hn2.out];omega);have hzu:(bs u).size=u.length:=zd u;have HZU:=hY hzu;have hul:u.length≤2000000:=by have:=HUM.out;omega
       have hpm:p+1≤m:=by omega
       have hn2b:n2≤2000000:=by omega
       have hYR:¬ Y=R:=by omega
       have hYZ:¬ Y=w.heap.size:=by omega
       clear hm HMI hrl hnl HZR hnl2;obtain ⟨b1,hb1⟩:∃ b,Hid (([125]:List UInt8).isPrefixOf u=b):=⟨_,hY rfl⟩
       obtain ⟨b2,hb2⟩:∃ b,Hid (([58,45]:List UInt8).isPrefixOf u=b):=⟨_,hY rfl⟩
       obtain ⟨b3,hb3⟩:∃ b,Hid (([58,43]:List UInt8).isPrefixOf u=b):=⟨_,hY rfl⟩
       go_cut [87] from 80 to 87 (fun s87 wx=>s87=.bool b1∧w5=wx)
       case first =>
        rcases Ju u.length with hu0 | hu0
        · have q0:decide ((0:Int)<((bs u).size:Int))=false:=dF (by omega);have q1:decide (0<(bs u).size)=false:=dF (by omega);have HF:Hid (b1=false):=hY (by rw [←hb1.out,Ki hu0];rfl);clear hzu;go_wp2_with fail;go_meet;exact ⟨by rw [HF.out],by trivial⟩
        · have q0:decide ((0:Int)<((bs u).size:Int))=true:=dT (by omega);have q1:0<(bs u).size:=by omega
          have q2:(0:Int)<((bs u).size:Int):=by omega
          obtain ⟨c,hc⟩:∃ c,(bs u)[0]'q1=c:=⟨_,rfl⟩
          have hcb:c.toNat<256:=Jm _;have q3:((c.toNat:Int)==125)=b1:=by
           have g:=yy u 0 q1;rw [hc] at g;rw [show (125:Int)=(((125:UInt8).toNat:Nat):Int) from rfl,ZG,←hb1.out];cases u with
           | nil=>cases g
           | cons c' r' =>injection g with g;subst g;simp only [List.isPrefixOf,Bool.and_true];rw [Jz,Jx,Jx];exact ⟨fun h=>h.symm,fun h=>h.symm⟩
          clear hzu;go_wp2_with fail;go_meet;exact ⟨by trivial,by trivial⟩
       case rest =>
        obtain ⟨rfl,rfl⟩:=hcut;clear hzu;have d1:w5.cell? ⟨R,1,none⟩=some (.int .i64 (m:Int)):=H5.out.rs.1.cell 1;have df:=H5.out.rs.1.frozen 1;cases b1 with
        | true =>
         have hu1:0<u.length:=by
          cases u with
          | nil=>have:=hb1.out;simp [List.isPrefixOf] at this
          | cons _ _=>simp
         have HXV:Hid (x=.inr (u.drop 1)):=hY (by rw [HBR.out,Ex.brace_end hn0.out (by rw [hn2.out,hu.out];exact hb1.out),hn2.out,←List.drop_drop,hu.out];rfl);obtain ⟨m1,hm1⟩:∃ m1,m+1=m1:=⟨_,rfl⟩
         have hmi:(m:Int)+1=(m1:Int):=by omega
         have H6:=hY (H5.out.at_ (q:=m1) (by omega));have P6:=hY (P5.out.at_ (q:=m1) (by omega));go_upto_region 19 with fail;obtain ⟨w6,hw6⟩:∃ y,w5.setCell ⟨R,1,none⟩ (.int .i64 (m1:Int))=y:=⟨_,rfl⟩
         rw [hw6] at H6 P6;rw [hw6];clear hw6 d1 df hmi;have y0:w6.cell? ⟨Y,0,none⟩=some (.string ⟨#[]⟩):=P6.out.kz.cell 0;have y1:w6.cell? ⟨Y,1,none⟩=some (.string (bs N2)):=P6.out.kz.cell 1;have y2:w6.cell? ⟨Y,2,none⟩=some (.int .u8 0):=P6.out.kz.cell 2;have y3:w6.cell? ⟨Y,3,none⟩=some (.slice none 0 0):=P6.out.kz.cell 3;go_wp2_with (refine ze rfl _ _ _ rfl yx w.heap.size #[.string ⟨#[]⟩,.string (bs N2),.int .u8 0,.slice none 0 0] #[.string ⟨#[]⟩,.string ⟨#[]⟩,.int .u8 0,.slice none 0 0] rfl rfl H6.out.kz rfl rfl rfl ?_;intro wz hKz hGz _);have HZ9:=H6.out.grow hGz hKz;exact bodyPost_ret (zo rfl yx rfl hKz rfl) rfl (by rw [HXV.out];exact HZ9.flat (t:=[]) (nm:=N2) (op:=0) (by simp) (by have:=HNL2.out;omega) (by omega) ⟨rfl,by show _+_+0=_;have:=HUM.out;rw [Jn];omega⟩)
        | false =>
         clear d1 df;obtain ⟨b4,hb4⟩:∃ b,Hid ((b2||b3)=b):=⟨_,hY rfl⟩
         have hzu:=HZU.out;go_upto_region 20 with fail;go_cut [113] from 96 to 113 (fun s113 wx=>s113=.bool (!b4)∧w5=wx)
         case first =>
          rcases Jh u.length 2 with hu2 | hu2
          · have q0:decide (((bs u).size:Int)<2)=true:=dT (by omega);have q1:decide ((bs u).size<2)=true:=dT (by omega);have HF:Hid (b4=false):=hY (by
             have h2:=hb2.out;have h3:=hb3.out;rw [←hb4.out,←h2,←h3]
             match u,hu2 with
             | [],_=>rfl
             | [c],_=>simp [List.isPrefixOf])
            clear hzu;go_wp2_with fail;go_meet;exact ⟨by rw [HF.out];rfl,by trivial⟩
          · have q0:decide (((bs u).size:Int)<2)=false:=dF (by omega);have q0n:decide ((bs u).size<2)=false:=dF (by omega);have q1:0<(bs u).size:=by omega
            have q2:(0:Int)<((bs u).size:Int):=by omega
            have q3:1<(bs u).size:=by omega
            have q4:(1:Int)<((bs u).size:Int):=by omega
            obtain ⟨c,hc⟩:∃ c,(bs u)[0]'q1=c:=⟨_,rfl⟩
            obtain ⟨d,hd⟩:∃ d,(bs u)[1]'q3=d:=⟨_,rfl⟩
            have hcb:c.toNat<256:=Jm _;have hdb:d.toNat<256:=Jm _;obtain ⟨y58,e58⟩:∃ b,((c.toNat:Int)==58)=b:=⟨_,rfl⟩
            obtain ⟨y45,e45⟩:∃ b,((d.toNat:Int)==45)=b:=⟨_,rfl⟩
            obtain ⟨y43,e43⟩:∃ b,((d.toNat:Int)==43)=b:=⟨_,rfl⟩
            have e58n:((c.toNat:Int) != 58)=!y58:=by rw [bne,e58]
            have e45n:((d.toNat:Int) != 45)=!y45:=by rw [bne,e45]
            have e43n:((d.toNat:Int) != 43)=!y43:=by rw [bne,e43]
            have HF:Hid (b4=(y58&&(y45||y43))):=hY (by
             have g0:=yy u 0 q1;have g1:=yy u 1 q3;rw [hc] at g0;rw [hd] at g1;have a1:(c==58)=y58:=by rw [←e58,show (58:Int)=(((58:UInt8).toNat:Nat):Int) from rfl,ZG]
             have a2:(d==45)=y45:=by rw [←e45,show (45:Int)=(((45:UInt8).toNat:Nat):Int) from rfl,ZG]
             have a3:(d==43)=y43:=by rw [←e43,show (43:Int)=(((43:UInt8).toNat:Nat):Int) from rfl,ZG]
             have h2:=hb2.out;have h3:=hb3.out
             match u,hu2 with
             | c'::d'::u',_ =>
              injection g0 with g0;injection g1 with g1;subst g0 g1;have cm:∀ a b:UInt8,(a==b)=(b==a):=fun a b=>by rw [Jz,Jx,Jx];exact ⟨fun h=>h.symm,fun h=>h.symm⟩
              rw [←hb4.out,←h2,←h3];simp only [List.isPrefixOf,Bool.and_true];rw [cm 58 c',cm 45 d',cm 43 d',a1,a2,a3];cases y58 <;> cases y45 <;> cases y43 <;> rfl)
            clear hzu;cases y58 <;> cases y45 <;> cases y43 <;> (
             go_wp2_with fail;go_meet;exact ⟨by rw [HF.out];rfl,by trivial⟩)
         case rest =>
          obtain ⟨rfl,rfl⟩:=hcut;clear hzu;cases b4 with
          | false =>have HXV:Hid (x=.inl 4):=hY (by have h4:=hb4.out;rw [Bool.or_eq_false_iff] at h4;rw [HBR.out,Ex.brace_bad (.inr ⟨by rw [hn2.out,hu.out];exact hb1.out,by rw [hn2.out,hu.out];exact hb2.out.trans h4.1,by rw [hn2.out,hu.out];exact hb3.out.trans h4.2⟩)];rfl);have HWR:=hY (yA s hs m e 0 4 v4 R w5 H5.out.rs.1);go_wp2_with fail;refine HWR.out.mono ?_;rintro a w9 ⟨rfl,hb9,hf9⟩;have H9:=hY (H5.out.to hf9 (by omega) hb9);clear hb9 hf9 HWR;go_wp2_with (refine ze rfl _ _ _ rfl yx w.heap.size #[.string ⟨#[]⟩,.string ⟨#[]⟩,.int .u8 0,.slice none 0 0] #[.string ⟨#[]⟩,.string ⟨#[]⟩,.int .u8 0,.slice none 0 0] rfl rfl H9.out.kz rfl rfl rfl ?_;intro wz hKz hGz _);have HZ9:=H9.out.grow hGz hKz;exact bodyPost_ret (zo rfl yx rfl hKz rfl) rfl (by rw [HXV.out];exact HZ9.flat (t:=[]) (nm:=[]) (op:=0) (by simp) (by simp) (by omega) ⟨rfl,by decide,Jd _,by show _+0≤_;omega⟩)
          | true =>
           obtain ⟨op,u',hop,rfl⟩:∃ op u',(op=45∨op=43)∧u=58::op::u':=by
            have h4:=hb4.out;rw [Bool.or_eq_true] at h4;rcases h4 with h | h
            · have h2:=hb2.out;rw [h,List.isPrefixOf_iff_prefix] at h2;obtain ⟨u',h2⟩:=h2;exact ⟨45,u',.inl rfl,h2.symm⟩
            · have h2:=hb3.out;rw [h,List.isPrefixOf_iff_prefix] at h2;obtain ⟨u',h2⟩:=h2;exact ⟨43,u',.inr rfl,h2.symm⟩
           have HXV:Hid (x=Ex.er (Ex.readL e .braces (s.drop (m+2)))):=hY (by rw [HBR.out,Ex.brace_op hn0.out hop (by rw [hn2.out,hu.out];rcases hop with rfl | rfl <;> rfl)];show Ex.er (Ex.readL e .braces (t.drop (Ex.nmL t+2)))=_;rw [hn2.out,←List.drop_drop,hu.out,←List.drop_drop,HUD2.out]);have hlu:(58::op::u').length=u'.length+2:=rfl;have hzu:=HZU.out;rw [hlu] at hzu hul;have hm2:m+2≤s.length:=by have:=HUM.out;rw [hlu] at this;omega
           have q3:1<(bs (58::op::u')).size:=by omega
           have q4:(1:Int)<((bs (58::op::u')).size:Int):=by omega
           have q5:(bs (58::op::u'))[1]'q3=op:=by have:=yy (58::op::u') 1 q3;exact (Jc this).symm
           have hob:op.toNat<256:=Jm _;clear hzu hlu hb1 hb2 hb3 hb4;have pf:=P5.out.kz.frozen 2;have y2:w5.cell? ⟨Y,2,none⟩=some (.int .u8 0):=P5.out.kz.cell 2;have H6:=hY (H5.out.oth (yb w5 Y 2 (.int .u8 (op.toNat:Int))) (fun b hb=>by have h2:b=Y:=hb;subst h2;exact ⟨P5.out.lz,P5.out.ne⟩) (fun h=>hYZ h.symm));have P6:=hY (P5.out.set 2 (.int .u8 (op.toNat:Int)));go_upto_region 24 with fail;obtain ⟨w6,hw6⟩:∃ y,w5.setCell ⟨Y,2,none⟩ (.int .u8 (op.toNat:Int))=y:=⟨_,rfl⟩
           rw [hw6] at H6 P6;rw [hw6];clear hw6 q3 q4 q5 pf y2 H5 P5;have d1:w6.cell? ⟨R,1,none⟩=some (.int .i64 (m:Int)):=H6.out.rs.1.cell 1;have df:=H6.out.rs.1.frozen 1;obtain ⟨m2,hm3⟩:∃ m2,m+2=m2:=⟨_,rfl⟩
           rw [hm3] at hm2 HXV;have hmi:(m:Int)+2=(m2:Int):=by omega
           have H7:=hY (H6.out.at_ (q:=m2) (by omega));have P7:=hY (P6.out.at_ (q:=m2) (by omega));go_upto_region 25 with fail;obtain ⟨w7,hw7⟩:∃ y,w6.setCell ⟨R,1,none⟩ (.int .i64 (m2:Int))=y:=⟨_,rfl⟩
           rw [hw7] at H7 P7;rw [hw7];clear hw7 d1 df hmi H6 P6;have HPL:=hY (HI.out m2 R v4 w7 (by omega) hm2 H7.out.rs);go_wp2_with fail;refine HPL.out.mono ?_;rintro a w8 ⟨p',no,v8,lv,nn,xs,rfl,hL,hnp,hd⟩;obtain ⟨A,c,rfl⟩:=zc hL.own;rw [←HXV.out] at hd;have hd8:s.length≤p'+s.length∧p'≤s.length+1:=by
            cases x with
            | inl z=>exact ⟨by omega,by have:=hd.2.2.2;omega⟩
            | inr t=>exact ⟨by omega,by have:=hd.2;omega⟩
           have H8:=hY (H7.out.go hL.rs hL.nw hL.fx);have P8:=hY (P7.out.go hL.rs hL.nw hL.fx);have hw7:w.heap.size<w7.heap.size∧Y<w7.heap.size∧R<w7.heap.size:=⟨H7.out.kz.lt,P7.out.kz.lt,H7.out.rs.1.lt⟩
           have RW8:Hid (Rw4 w8 (fun b=>b<w7.heap.size∨v8.ownBlock=some b) A nn xs):=hY (Rw4.own hL.own (fun b hb hx=>hx.elim (fun h=>by have:=(hL.own.lt b hb).1;omega) (hL.ne b hb)));have PC8:Hid (PC w8 (fun b=>b<w7.heap.size∨v8.ownBlock=some b) nn xs):=hY (hL.pc.fx (S:=fun _=>False) Fx.refl (fun b _ h=>h.elim False.elim (fun h=>h.elim .inl (fun h=>.inr (.inl h)))));have hle:=hL.fx.size;clear hL HPL H7 P7;have y3:w8.cell? ⟨Y,3,none⟩=some (.slice none 0 0):=P8.out.kz.cell 3;have pf:=P8.out.kz.frozen 3;have H9:=hY (H8.out.oth (yb w8 Y 3 (.slice A nn c)) (fun b hb=>by have h2:b=Y:=hb;subst h2;exact ⟨P8.out.lz,P8.out.ne⟩) (fun h=>hYZ h.symm));have P9:=hY (P8.out.set 3 (.slice A nn c));have K9:=hY ((yb w8 Y 3 (.slice A nn c)).mono (S':=fun b=>b<w7.heap.size) (fun b _ hb=>by have h2:b=Y:=hb;show b<_;omega));go_upto_region 26 with fail;obtain ⟨w9,hw9⟩:∃ y,w8.setCell ⟨Y,3,none⟩ (.slice A nn c)=y:=⟨_,rfl⟩
           rw [hw9] at H9 P9 K9;rw [hw9];clear hw9 y3 pf H8 P8;have d1:w9.cell? ⟨R,1,none⟩=some (.int .i64 (p':Int)):=H9.out.rs.1.cell 1;have df:=H9.out.rs.1.frozen 1;obtain ⟨m3,hm4⟩:∃ m3,p'+1=m3:=⟨_,rfl⟩
           have hmi:(p':Int)+1=(m3:Int):=by omega
           have hpb:p'≤2000001:=by omega
           have H10:=hY (H9.out.at_ (q:=m3) (by omega));have P10:=hY (P9.out.at_ (q:=m3) (by omega));have K10:=hY (K9.out.trans ((yb w9 R 1 (.int .i64 (m3:Int))).mono (S':=fun b=>b<w7.heap.size) (fun b _ hb=>by have h2:b=R:=hb;show b<_;omega)));go_upto_region 27 with fail;obtain ⟨w10,hw10⟩:∃ y,w9.setCell ⟨R,1,none⟩ (.int .i64 (m3:Int))=y:=⟨_,rfl⟩
           rw [hw10] at H10 P10 K10;rw [hw10];clear hw10 d1 df hmi H9 P9 K9;have y0:w10.cell? ⟨Y,0,none⟩=some (.string ⟨#[]⟩):=P10.out.kz.cell 0;have y1:w10.cell? ⟨Y,1,none⟩=some (.string (bs N2)):=P10.out.kz.cell 1;have y2:w10.cell? ⟨Y,2,none⟩=some (.int .u8 (op.toNat:Int)):=P10.out.kz.cell 2;have y3:w10.cell? ⟨Y,3,none⟩=some (.slice A nn c):=P10.out.kz.cell 3;go_wp2_with (refine ze rfl _ _ _ rfl yx w.heap.size #[.string ⟨#[]⟩,.string (bs N2),.int .u8 (op.toNat:Int),.slice A nn c] #[.string ⟨#[]⟩,.string ⟨#[]⟩,.int .u8 0,.slice none 0 0] rfl rfl H10.out.kz rfl rfl rfl ?_;intro wz hKz hGz _);have HZ9:=H10.out.grow hGz hKz;have KZ:=K10.out.trans ((Fx.of_grown hGz).mono (S':=fun b=>b<w7.heap.size) (fun b _ hb=>by injection hb with hb;show b<_;omega));have hX:∀ b,b<w8.heap.size→(b<w7.heap.size)∨(b<w.heap.size∨v8.ownBlock=some b)→b<w7.heap.size∨v8.ownBlock=some b:=fun b _ h=>by
            rcases h with h | h | h
            · exact .inl h
            · exact .inl (by omega)
            · exact .inr h
           refine bodyPost_ret (zo rfl yx rfl hKz rfl) rfl ⟨m3,no,v8,[],N2,op,A,nn,c,xs,rfl,HZ9.rs,HZ9.nw,HZ9.fx,by simp,by have:=HNL2.out;omega,by omega,RW8.out.fx KZ hX,PC8.out.fx KZ hX,by omega,?_⟩;cases x with
           | inl z =>obtain ⟨a1,a2,a3,a4⟩:=hd;exact ⟨a1,a2,by omega,by show m3+0≤_;have a5:p'+1≤s.length+1:=a4;omega⟩
           | inr t =>obtain ⟨a1,a2⟩:=hd;exact ⟨a1,by show m3+_+0=_;have a5:p'+t.length+1=s.length:=a2;omega⟩
  · have k0:decide ((0:Int)<(n:Int))=true:=dT (by omega);have k1:(0:Int)<(n:Int):=by omega
    have HXV:Hid (x=.inr (r.drop n)):=hY (by rw [←HX.out,Ex.vR_name (by rw [hn.out];exact h0),hn.out];rfl);have sl2:∀ wx,(Instr.slice 9 (.string (bs r)) none (some (.int .i64 (n:Int))) none).run Tryz.prog wx=.ok (.string (bs N)) wx:=by
     have:=YR r n (n:Int) rfl hnl
     rwa [hN.out] at this
    have hzr:=HZR.out;have HMT:=hY (XE s p e 0 v R w2 N _ H2.out.rs.1 H2.out.rs.2.1 H2.out.rs.2.2 (by omega) (by omega));go_wp2_with fail;refine HMT.out.mono ?_;rintro a w4 ⟨rfl,v4,hb4,hn4,hv4,hnw4,hf4⟩;obtain ⟨m,hm⟩:∃ m,p+1+n=m:=⟨_,rfl⟩
    have hmi:(p:Int)+1+(n:Int)=(m:Int):=by omega
    have H5:=hY (H2.out.go (RS15.after (q:=m) hb4 hn4 hv4 (by omega)) hnw4 (hf4.at15 _));have d1:w4.cell? ⟨R,1,none⟩=some (.int .i64 (p:Int)):=hb4.cell 1;have df:=hb4.frozen 1;have hms:m≤s.length:=by omega
    clear HMT hb4 hn4 hv4 hnw4 hf4;go_upto_region 6 with fail;obtain ⟨w5,hw5⟩:∃ y,w4.setCell ⟨R,1,none⟩ (.int .i64 (m:Int))=y:=⟨_,rfl⟩
    rw [hw5] at H5;rw [hw5];clear hw5 d1 df hmi k0 k1 hzr;go_wp2_with (refine ze rfl _ _ _ rfl yx w.heap.size #[.string ⟨#[]⟩,.string (bs N),.int .u8 0,.slice none 0 0] #[.string ⟨#[]⟩,.string ⟨#[]⟩,.int .u8 0,.slice none 0 0] rfl rfl H5.out.kz rfl rfl rfl ?_;intro wz hKz hGz _);have HZ9:=H5.out.grow hGz hKz;exact bodyPost_ret (zo rfl yx rfl hKz rfl) rfl (by rw [HXV.out];exact HZ9.flat (t:=[]) (nm:=N) (op:=0) (by simp) (by omega) (by omega) ⟨rfl,by show _+_+0=_;rw [Jn];omega⟩))
end Go.Proofs.YtdaejggcjjdhkaaGreatDoor
