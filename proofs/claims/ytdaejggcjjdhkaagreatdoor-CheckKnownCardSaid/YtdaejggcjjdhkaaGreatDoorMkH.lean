/- expand: variable. -/
import Derived.Test.YtdaejggcjjdhkaaGreatDoorMkD
import Derived.Test.YtdaejggcjjdhkaaGreatDoorMkC
import Derived.StillTailTactics
import Derived.Test.YtdaejggcjjdhkaaGreatDoorMkE
set_option maxHeartbeats 1000000
set_option maxRecDepth 100000
namespace Go.Proofs.YtdaejggcjjdhkaaGreatDoor
open Go Go.RowKit
namespace Ex
def vR (e:UInt8) (r:List UInt8):R:=match yQ r with
 | .bad=>.inl 4
 | .flat t r'=>.inr (t,r')
 | .deep n op r'=>match readL e .braces r' with
  | .inl z=>.inl z
  | .inr (l,r2)=>.inr ([.v n op l],r2)
theorem read_dollar {e:UInt8} {k:Kd} {r:List UInt8} (h0:(36:UInt8)≠e):(∀ z,vR e r=.inl z→readL e k (36::r)=.inl z)∧(∀ t r',vR e r=.inr (t,r')→readL e k (36::r)=adds t (readL e k r')):=by
 unfold vR;cases hv:yQ r with
 | bad =>refine ⟨fun z h=>?_,fun t r' h=>by cases h⟩;injection h with h;rw [QK h0 hv,h]
 | flat t r' =>refine ⟨fun z h=>(by cases h),fun t2 r2 h=>?_⟩;injection h with h;injection h with h1 h2;subst h1 h2;exact UR h0 hv
 | deep n op r' =>
  simp only;cases hb:readL e .braces r' with
  | inl z =>refine ⟨fun z2 h=>?_,fun t r' h=>by cases h⟩;injection h with h;subst h;exact Xk h0 hv hb
  | inr p =>obtain ⟨l,r2⟩:=p;refine ⟨fun z h=>(by cases h),fun t2 r3 h=>?_⟩;injection h with h;injection h with h1 h2;subst h1 h2;exact US h0 hv hb
theorem vR_name {e:UInt8} {r:List UInt8} (h:0<nmL r):vR e r=.inr ([.v (r.take (nmL r)) 0 []],r.drop (nmL r)):=by unfold vR yQ;rw [if_pos h]
theorem vR_dollar {e:UInt8} {r:List UInt8} (h:nmL r=0) (h2:([123]:List UInt8).isPrefixOf r=false):vR e r=.inr ([.b 36],r):=by
 unfold vR yQ;rw [if_neg (by omega)];cases r with
 | nil=>rfl
 | cons c r =>
  have hc:c≠123:=fun e=>by subst e;simp [List.isPrefixOf] at h2
  split
  · rename_i h3;split at h3 <;> first | (rename_i h4;injection h4 with h4;exact absurd h4 hc) | cases h3
  · rename_i h3;split at h3 <;> first | (rename_i h4;injection h4 with h4;exact absurd h4 hc) | (injection h3 with h3 h5;rw [←h3,←h5])
  · rename_i h3;split at h3 <;> first | (rename_i h4;injection h4 with h4;exact absurd h4 hc) | cases h3
theorem vR_brace (e:UInt8) (r:List UInt8):vR e (123::r)=match braceL r with
 | .bad=>.inl 4
 | .flat t r'=>.inr (t,r')
 | .deep n op r'=>match readL e .braces r' with
  | .inl z=>.inl z
  | .inr (l,r2)=>.inr ([.v n op l],r2):=by
 unfold vR yQ;rw [if_neg (by rw [show nmL (123::r)=0 from rfl];decide)];rfl
theorem brace_bad {r:List UInt8} (h:nmL r=0∨(([125]:List UInt8).isPrefixOf (r.drop (nmL r))=false∧([58,45]:List UInt8).isPrefixOf (r.drop (nmL r))=false∧([58,43]:List UInt8).isPrefixOf (r.drop (nmL r))=false)):braceL r=.bad:=by
 unfold braceL
 split
 · rfl
 · rename_i h0;rcases h with h | ⟨h1,h2,h3⟩
   · exact absurd h h0
   · split
     · rename_i q;rw [q] at h1;simp [List.isPrefixOf] at h1
     · rename_i q;rw [q] at h2;simp [List.isPrefixOf] at h2
     · rename_i q;rw [q] at h3;simp [List.isPrefixOf] at h3
     · rfl
theorem brace_end {r:List UInt8} (h0:nmL r≠0) (h:([125]:List UInt8).isPrefixOf (r.drop (nmL r))=true):braceL r=.flat [.v (r.take (nmL r)) 0 []] (r.drop (nmL r+1)):=by unfold braceL;rw [if_neg h0];rw [List.isPrefixOf_iff_prefix] at h;obtain ⟨t,ht⟩:=h;rw [←List.drop_drop,←ht];rfl
theorem brace_op {r:List UInt8} {c:UInt8} (h0:nmL r≠0) (hc:c=45∨c=43) (h:([58,c]:List UInt8).isPrefixOf (r.drop (nmL r))=true):braceL r=.deep (r.take (nmL r)) c (r.drop (nmL r+2)):=by unfold braceL;rw [if_neg h0];rw [List.isPrefixOf_iff_prefix] at h;obtain ⟨t,ht⟩:=h;rw [←List.drop_drop,←ht];rcases hc with rfl | rfl <;> rfl
end Ex
def RdErr (w:World) (R z:Nat) (r:Ending) (w':World):Prop:=r=.returned (.tuple #[.slice none 0 0,Xi z])∧Fx (fun b=>b=R) w w'
def RdOk (w:World) (R:Nat) (s:List UInt8) (e:UInt8) (p:Nat) (l:List Ex.Tk) (t:List UInt8) (r:Ending) (w':World):Prop:=∃ v xs,r=.returned (.tuple #[v,.nilIface])∧w'.ownsRow w.heap.size 215 1 v xs.length xs∧PL w' (fun b=>b<w.heap.size) l xs∧Rdr w' R s (s.length - t.length) e∧xs.length+t.length+p≤s.length∧Fx (fun b=>b=R) w w'
def j9 (w:World) (R:Nat) (s:List UInt8) (e:UInt8) (p:Nat) (x:Ex.R) (r:Ending) (w':World):Prop:=match x with
 | .inl z=>RdErr w R z r w'
 | .inr (l,t)=>RdOk w R s e p l t r w'
def VrErr (w:World) (R z:Nat) (r:Ending) (w':World):Prop:=∃ v,r=.returned (.tuple #[v,Xi z])∧Fx (fun b=>b=R) w w'
def VrOk (w:World) (R:Nat) (s:List UInt8) (e:UInt8) (p:Nat) (l:List Ex.Tk) (t:List UInt8) (r:Ending) (w':World):Prop:=∃ v d,r=.returned (.tuple #[v,.nilIface])∧PV w' (fun b=>b<w.heap.size) d l v∧Rdr w' R s (s.length - t.length) e∧t.length+p<s.length∧Fx (fun b=>b=R) w w'
def VrAns (w:World) (R:Nat) (s:List UInt8) (e:UInt8) (p:Nat) (x:Ex.R) (r:Ending) (w':World):Prop:=match x with
 | .inl z=>VrErr w R z r w'
 | .inr (l,t)=>VrOk w R s e p l t r w'
theorem Rdr.set_ {w:World} {R p:Nat} {s:List UInt8} {e:UInt8} (h:Rdr w R s p e) (q:Nat):Rdr (w.setCell ⟨R,1,none⟩ (.int .i64 (q:Int))) R s q e:=by have:=Blk.set_ h 1 (.int .i64 (q:Int));unfold Rdr;simpa using this
theorem Rdr.new {w w':World} {R p:Nat} {s:List UInt8} {e:UInt8} (h:Rdr w R s p e) (hb:Below w.heap.size w w'):Rdr w' R s p e:=Blk.below h hb (Blk.lt h)
theorem XS {s:List UInt8} {e:UInt8} {p:Nat} (hs:s.length≤zw) (hp:p<s.length)
  (IH:∀ (p':Nat) (R:Nat) (w:World),p<p'→p'≤s.length→Rdr w R s p' e→Calls Tryz.prog 162 #[.pointer (some ⟨R,0,none⟩),.int .i64 1] w (j9 w R s e p' (Ex.readL e .braces (s.drop p'))))
  {w:World} {R:Nat} (h:Rdr w R s p e) {x:Ex.R} (H:Hid (Ex.vR e (s.drop (p+1))=x)):
  Calls Tryz.prog 191 #[.pointer (some ⟨R,0,none⟩)] w (VrAns w R s e p x):=by
 have c1:w.cell? ⟨R,1,none⟩=some (.int .i64 (p:Int)):=Blk.cell h 1;have f1:=Blk.frozen h 1;have hs2:s.length≤2000000:=hs;have h1:=Rdr.set_ h (p+1);have k1:=Fx.set_ w ⟨R,1,none⟩ (.int .i64 ((p+1:Nat):Int));rw [show ((p+1:Nat):Int)=(p:Int)+1 by omega] at h1 k1;obtain ⟨w1,hw1⟩:∃ w1,w.setCell ⟨R,1,none⟩ (.int .i64 ((p:Int)+1))=w1:=⟨_,rfl⟩
 rw [hw1] at h1 k1;have HW1:=hY hw1;have H1:=hY h1;have K1:=hY k1;obtain ⟨r,hr⟩:∃ r,Hid (s.drop (p+1)=r):=⟨_,hY rfl⟩
 have HRL:Hid (r.length=s.length - (p+1)):=hY (by rw [←hr.out,Jn]);obtain ⟨n,hn⟩:∃ n,Hid (Ex.nmL r=n):=⟨_,hY rfl⟩
 have hnl:n≤r.length:=by have:=Ex.nm_le r;rw [hn.out] at this;exact this
 have hrl:r.length+p+1=s.length:=by have:=HRL.out;omega
 obtain ⟨N,hN⟩:∃ N,Hid (r.take n=N):=⟨_,hY rfl⟩
 have hNl:N.length=n:=by rw [←hN.out,Kt];omega
 have HNL:=hY hNl;have HX:Hid (Ex.vR e r=x):=hY (by rw [←hr.out];exact H.out);have HI:=hY IH;clear h h1 k1 hw1 H IH hNl;go_enter Tryz.func191,Tryz.ntmps191;go_upto_region 2 with fail;rw [HW1.out];go_wp2_with fail;refine (WZ H1.out (by omega) hs (by rw [hr.out];exact hn)).mono ?_;rintro a w2 ⟨rfl,b2⟩;rw [hr.out,hN.out];have H2:=hY (Rdr.new H1.out b2);have K2:=hY (K1.out.trans (Fx.new b2));clear b2 c1 f1;have c0:w2.cell? ⟨R,0,none⟩=some (.string (bs s)):=Blk.cell H2.out 0;have c1:w2.cell? ⟨R,1,none⟩=some (.int .i64 ((p+1:Nat):Int)):=Blk.cell H2.out 1;have f1:=Blk.frozen H2.out 1;rw [show ((p+1:Nat):Int)=(p:Int)+1 by omega] at c1;rcases Ju n with h0 | h0
 · have z1:(bs N).toList.isEmpty=true:=by
    rw [zh];cases N with
    | nil=>rfl
    | cons _ _=>have:=HNL.out;simp at this;omega
   have sl:∀ wx,(Instr.slice 9 (.string (bs s)) (some (.int .i64 ((p:Int)+1))) none none).run Tryz.prog wx=.ok (.string (bs r)) wx:=by
    have:=z9 s (p+1) ((p:Int)+1) (by omega) (by omega)
    rwa [hr.out] at this
   obtain ⟨b,hb⟩:∃ b,Hid (([123]:List UInt8).isPrefixOf r=b):=⟨_,hY rfl⟩
   cases b with
   | false =>
    have HV:Hid (x=.inr ([.b 36],r)):=hY (by rw [←HX.out,Ex.vR_dollar (hn.out.trans h0) hb.out]);have hpl:(p:Int)+1≤((bs s).size:Int):=by rw [zd];omega
    go_wp2_with fail;go_quiet ((go_at_call 98;exact Calls.quiet_of_same ((zK r [123] _ hb).mono fun _ _ h=>⟨h.1,h.2.symm⟩)));go_wp2_with fail;go_ret2;rw [HV.out];refine ⟨_,0,rfl,PV.lit (s:=[36]) 0 (by decide),?_,by omega,(K2.out.trans (Fx.new (zj (Ja _ _) _)))⟩;rw [show s.length - r.length=p+1 by omega];exact Rdr.new H2.out (zj (Ja _ _) _)
   | true =>
    obtain ⟨t,rfl⟩:∃ t,r=123::t:=by have:=hb.out;rw [List.isPrefixOf_iff_prefix] at this;obtain ⟨t,ht⟩:=this;exact ⟨t,ht.symm⟩
    have hlen:(123::t).length=t.length+1:=rfl;rw [hlen] at hrl hnl;have HT:Hid (s.drop (p+2)=t):=hY (by rw [←List.drop_drop (i:=1) (j:=p+1),hr.out];rfl);obtain ⟨n2,hn2⟩:∃ n,Hid (Ex.nmL t=n):=⟨_,hY rfl⟩
    have hnl2:n2≤t.length:=by have:=Ex.nm_le t;rw [hn2.out] at this;exact this
    obtain ⟨N2,hN2⟩:∃ N,Hid (t.take n2=N):=⟨_,hY rfl⟩
    have HNL2:Hid (N2.length=n2):=hY (by rw [←hN2.out,Kt];omega);have hz2:(bs N2).size≤2000000:=by rw [zd,HNL2.out];omega
    have HZ2:Hid ((bs N2).size=n2):=hY (by rw [zd,HNL2.out]);obtain ⟨u,hu⟩:∃ u,Hid (t.drop n2=u):=⟨_,hY rfl⟩
    have HUL:Hid (u.length=t.length - n2):=hY (by rw [←hu.out,Jn]);have HUD:Hid (s.drop (p+2+n2)=u):=hY (by rw [←List.drop_drop,HT.out,hu.out]);have hpl:(p:Int)+1≤((bs s).size:Int):=by rw [zd];omega
    clear hlen;go_wp2_with fail;go_quiet ((go_at_call 98;exact Calls.quiet_of_same ((zK (123::t) [123] _ hb).mono fun _ _ h=>⟨h.1,h.2.symm⟩)));go_upto_region 9 with fail;have h3:=Rdr.set_ (Rdr.new H2.out (zj (Ja _ _) nq)) (p+2);have k3:=Fx.set_ (w2.drewN nq) ⟨R,1,none⟩ (.int .i64 ((p+2:Nat):Int));rw [show ((p+2:Nat):Int)=(p:Int)+1+1 by omega] at h3 k3;have K3:=hY ((K2.out.trans (Fx.new (zj (Ja _ _) nq))).trans k3);obtain ⟨w3,hw3⟩:∃ w3,(w2.drewN nq).setCell ⟨R,1,none⟩ (.int .i64 ((p:Int)+1+1))=w3:=⟨_,rfl⟩
    rw [hw3] at h3 K3;have H3:=hY h3;have HW3:=hY hw3;clear h3 k3 hw3 c0 c1 f1 sl hpl z1;rw [HW3.out];clear HW3;go_wp2_with fail;refine (WZ H3.out (by omega) hs (by rw [HT.out];exact hn2)).mono ?_;rintro a w4 ⟨rfl,b4⟩;rw [HT.out,hN2.out];have K4:=hY (K3.out.trans (Fx.new b4));have H4:=hY (Rdr.new H3.out b4);clear b4;go_upto_region 10 with fail;have b5:=(Ja w4.heap.size w4).alloc (Jd _) (.cells #[.string (bs N2),.int .u8 0,.slice none 0 0] 227);have KV5:=hY (Blk.new w4 227 #[.string (bs N2),.int .u8 0,.slice none 0 0]);have H5:=hY (Rdr.new H4.out b5);have K5:=hY (K4.out.trans (Fx.new b5));obtain ⟨V,hV⟩:∃ V,w4.heap.size=V:=⟨_,rfl⟩
    obtain ⟨w5,hw5⟩:∃ w5,w4.alloc (.cells #[.string (bs N2),.int .u8 0,.slice none 0 0] 227)=w5:=⟨_,rfl⟩
    rw [hw5] at KV5 H5 K5;rw [hV] at KV5;rw [hw5,hV];have hRV:R<V:=by rw [←hV];exact Blk.lt H4.out
    have hVw:w.heap.size≤V:=by rw [←hV];exact K4.out.size
    clear b5 hw5 hV;have c0:w5.cell? ⟨R,0,none⟩=some (.string (bs s)):=Blk.cell H5.out 0;have c1:w5.cell? ⟨R,1,none⟩=some (.int .i64 ((p+2:Nat):Int)):=Blk.cell H5.out 1;have f1:=Blk.frozen H5.out 1;have v0:w5.cell? ⟨V,0,none⟩=some (.string (bs N2)):=KV5.out.cell 0;go_still_tail 10,(by kernel_rfl)
    go_upto_region 11 with fail;have h6:=Rdr.set_ H5.out (p+2+n2);have k6:=Fx.set_ w5 ⟨R,1,none⟩ (.int .i64 ((p+2+n2:Nat):Int));rw [show ((p+2+n2:Nat):Int)=(p:Int)+2+((bs N2).size:Int) by have:=HZ2.out;omega] at h6 k6;have KV6:=hY (k6.blk KV5.out (by show ¬ V=R;omega));have K6:=hY (K5.out.trans k6);obtain ⟨w6,hw6⟩:∃ w6,(w5.setCell ⟨R,1,none⟩ (.int .i64 ((p:Int)+2+((bs N2).size:Int)))).drew=w6:=⟨_,rfl⟩
    obtain ⟨m,hm⟩:∃ m,m=p+2+n2:=⟨_,rfl⟩
    have HM:=hY hm;have hms:m≤s.length:=by omega
    have hpm:p+2≤m:=by omega
    have HUD:Hid (s.drop m=u):=hY (by rw [hm];exact HUD.out);have HUM:Hid (u.length+m=s.length):=hY (by have:=HUL.out;omega);have H6:Hid (Rdr w6 R s m e):=hY (by rw [←hw6,hm];exact h6);have KV6:Hid (Blk w6 V 227 #[.string (bs N2),.int .u8 0,.slice none 0 0]):=hY (by rw [←hw6];exact KV6.out);have K6:Hid (Fx (fun b=>b=R) w w6):=hY (by rw [←hw6];exact K6.out.drewN 1);rw [hw6];clear h6 k6 hw6 c0 c1 f1 v0 H5 KV5 K5 hm;have c0:w6.cell? ⟨R,0,none⟩=some (.string (bs s)):=Blk.cell H6.out 0;have c1:w6.cell? ⟨R,1,none⟩=some (.int .i64 (m:Int)):=Blk.cell H6.out 1;have sl:=z9 s m (m:Int) rfl (by omega);rw [HUD.out] at sl;go_quiet (fail);have H7:=hY (Rdr.new H6.out (zj (Ja _ _) nq));have KV7:=hY (KV6.out.drewN nq);have K7:=hY (K6.out.drewN nq);obtain ⟨w7,hw7⟩:∃ w7,w6.drewN nq=w7:=⟨_,rfl⟩
    rw [hw7] at H7 KV7 K7;rw [hw7];clear hw7 sl c0 c1 H6 KV6 K6;have c1:w7.cell? ⟨R,1,none⟩=some (.int .i64 (m:Int)):=Blk.cell H7.out 1;have f1:=Blk.frozen H7.out 1;have v0:w7.cell? ⟨V,0,none⟩=some (.string (bs N2)):=KV7.out.cell 0;have v1:w7.cell? ⟨V,1,none⟩=some (.int .u8 0):=KV7.out.cell 1;have v2:w7.cell? ⟨V,2,none⟩=some (.slice none 0 0):=KV7.out.cell 2;have fv1:=KV7.out.frozen 1;have HB:Hid (x=match Ex.braceL t with
     | .bad=>.inl 4
     | .flat t r'=>.inr (t,r')
     | .deep n op r'=>match Ex.readL e .braces r' with
      | .inl z=>.inl z
      | .inr (l,r2)=>.inr ([.v n op l],r2)):=hY (by rw [←HX.out,Ex.vR_brace])
    rcases Ju n2 with h0 | h0
    · have z1:(bs N2).toList.isEmpty=true:=by
       rw [zh];cases N2 with
       | nil=>rfl
       | cons _ _=>have:=HNL2.out;simp at this;omega
      have HV:Hid (x=.inl 4):=hY (by rw [HB.out,Ex.brace_bad (.inl (hn2.out.trans h0))]);go_wp2_with fail;go_ret2;rw [HV.out];exact ⟨_,rfl,K7.out⟩
    · have z1:(bs N2).toList.isEmpty=false:=by
       rw [zh];cases N2 with
       | nil=>have:=HNL2.out;simp at this;omega
       | cons _ _=>rfl
      have hn0:Hid (Ex.nmL t≠0):=hY (by rw [hn2.out];omega);obtain ⟨b1,hb1⟩:∃ b,Hid (([125]:List UInt8).isPrefixOf u=b):=⟨_,hY rfl⟩
      obtain ⟨b2,hb2⟩:∃ b,Hid (([58,45]:List UInt8).isPrefixOf u=b):=⟨_,hY rfl⟩
      obtain ⟨b3,hb3⟩:∃ b,Hid (([58,43]:List UInt8).isPrefixOf u=b):=⟨_,hY rfl⟩
      cases b1 with
      | true =>
       have HV:Hid (x=.inr ([.v N2 0 []],u.drop 1)):=hY (by rw [HB.out,Ex.brace_end hn0.out (by rw [hn2.out,hu.out];exact hb1.out),hn2.out,hN2.out,←List.drop_drop,hu.out]);have hul:0<u.length:=by
        cases u with
        | nil=>have:=hb1.out;simp [List.isPrefixOf] at this
        | cons _ _=>simp
       have HUL1:Hid ((u.drop 1).length+(m+1)=s.length):=hY (by have:=HUM.out;rw [Jn];omega);have h8:=Rdr.set_ H7.out (m+1);have k8:=Fx.set_ w7 ⟨R,1,none⟩ (.int .i64 ((m+1:Nat):Int));rw [show ((m+1:Nat):Int)=(m:Int)+1 by omega] at h8 k8;have H8:=hY h8;have K8:=hY (K7.out.trans k8);clear h8 k8;go_wp2_with fail;refine (zK u [125] _ hb1).mono ?_;rintro a w' ⟨rfl,rfl⟩;go_wp2_with fail;go_ret2;rw [HV.out];refine ⟨_,1,rfl,PV.var (by rw [HNL2.out];unfold zw;omega) ⟨rfl,fun h=>absurd h (by omega)⟩ (Nat.zero_le _) PVs.nil,?_,by have:=HUL1.out;omega,K8.out⟩;have e8:s.length - (u.drop 1).length=m+1:=by have:=HUL1.out;omega
       rw [e8];exact H8.out
      | false =>
       go_wp2_with fail;refine (zK u [125] _ hb1).mono ?_;rintro a w' ⟨rfl,rfl⟩;go_upto_region 17 with fail;obtain ⟨b4,hb4⟩:∃ b,Hid ((b2||b3)=b):=⟨_,hY rfl⟩
       go_cut [89] (fun s89 wx=>s89=.bool b4∧w7=wx)
       case first =>
        cases b2 with
        | true =>have HF:Hid (b4=true):=hY (by rw [←hb4.out];rfl);go_wp2_with fail;refine (zK u [58,45] _ hb2).mono ?_;rintro a w' ⟨rfl,rfl⟩;go_wp2_with fail;go_meet;exact ⟨by rw [HF.out],by trivial⟩
        | false =>have HF:Hid (b4=b3):=hY (by rw [←hb4.out];rfl);go_wp2_with fail;refine (zK u [58,45] _ hb2).mono ?_;rintro a w' ⟨rfl,rfl⟩;go_wp2_with fail;refine (zK u [58,43] _ hb3).mono ?_;rintro a w' ⟨rfl,rfl⟩;go_wp2_with fail;go_meet;exact ⟨by rw [HF.out],by trivial⟩
       case rest =>
        obtain ⟨rfl,rfl⟩:=hcut;cases b4 with
        | false =>have HV:Hid (x=.inl 4):=hY (by have h4:=hb4.out;rw [Bool.or_eq_false_iff] at h4;rw [HB.out,Ex.brace_bad (.inr ⟨by rw [hn2.out,hu.out];exact hb1.out,by rw [hn2.out,hu.out,hb2.out];exact h4.1,by rw [hn2.out,hu.out,hb3.out];exact h4.2⟩)]);go_wp2_with fail;go_ret2;rw [HV.out];exact ⟨_,rfl,K7.out⟩
        | true =>
         obtain ⟨op,hop,y,hy⟩:∃ op:UInt8,(op=45∨op=43)∧∃ y,u=58::op::y:=by
          have h4:=hb4.out;rw [Bool.or_eq_true] at h4;rcases h4 with h4 | h4
          · have h5:=hb2.out.trans h4;rw [List.isPrefixOf_iff_prefix] at h5;obtain ⟨y,hy⟩:=h5;exact ⟨45,.inl rfl,y,hy.symm⟩
          · have h5:=hb3.out.trans h4;rw [List.isPrefixOf_iff_prefix] at h5;obtain ⟨y,hy⟩:=h5;exact ⟨43,.inr rfl,y,hy.symm⟩
         have HY:Hid (s.drop (m+2)=y):=hY (by rw [←List.drop_drop,HUD.out,hy];rfl);have hyl:y.length+2+m=s.length:=by have:=HUM.out;rw [hy] at this;simp only [Ji] at this;omega
         have HV0:Hid (x=match Ex.readL e .braces y with
          | .inl z=>.inl z
          | .inr (l,r2)=>.inr ([.v N2 op l],r2)):=hY (by
          have hpf:([58,op]:List UInt8).isPrefixOf (t.drop (Ex.nmL t))=true:=by rw [hn2.out,hu.out,hy,List.isPrefixOf_iff_prefix];exact ⟨y,rfl⟩
          rw [HB.out,Ex.brace_op hn0.out hop hpf,hn2.out,hN2.out];have:t.drop (n2+2)=y:=by rw [←List.drop_drop,hu.out,hy];rfl
          rw [this])
         have hbs:1<(bs u).size:=by rw [zd,hy];simp
         have hbi:(1:Int)<((bs u).size:Int):=by omega
         have hu1:(bs u)[1]'hbs=op:=by
          have h2:u[1]?=some ((bs u)[1]'hbs):=yy u 1 hbs;have h3:u[1]?=some op:=by rw [hy];rfl
          exact Jc (h2.symm.trans h3)
         have hob:op.toNat<256:=Jm _;clear hy;have hr8:=Rdr.set_ (R:=R) (p:=m) (s:=s) (e:=e) (w:=w7.setCell ⟨V,1,none⟩ (.int .u8 (op.toNat:Int))) ((Fx.set_ w7 ⟨V,1,none⟩ (.int .u8 (op.toNat:Int))).blk H7.out (by show ¬ R=V;omega)) (m+2);rw [show ((m+2:Nat):Int)=(m:Int)+2 by omega] at hr8;have kv8:Blk ((w7.setCell ⟨V,1,none⟩ (.int .u8 (op.toNat:Int))).setCell ⟨R,1,none⟩ (.int .i64 ((m:Int)+2))) V 227 #[.string (bs N2),.int .u8 (op.toNat:Int),.slice none 0 0]:=
          (Fx.set_ _ ⟨R,1,none⟩ _).blk (by have:=KV7.out.set_ 1 (.int .u8 (op.toNat:Int));simpa using this) (by show ¬ V=R;omega)
         have k8:Fx (fun b=>b=R) w ((w7.setCell ⟨V,1,none⟩ (.int .u8 (op.toNat:Int))).setCell ⟨R,1,none⟩ (.int .i64 ((m:Int)+2))):=
          ((K7.out.then (Fx.set_ w7 ⟨V,1,none⟩ (.int .u8 (op.toNat:Int))) (fun b hb h=>by have h2:b=V:=h;omega))).trans (Fx.set_ _ ⟨R,1,none⟩ _)
         obtain ⟨w8,hw8⟩:∃ w8,(w7.setCell ⟨V,1,none⟩ (.int .u8 (op.toNat:Int))).setCell ⟨R,1,none⟩ (.int .i64 ((m:Int)+2))=w8:=⟨_,rfl⟩
         rw [hw8] at hr8 kv8 k8;have H8:=hY hr8;have KV8:=hY kv8;have K8:=hY k8;have HW8:=hY hw8;clear hr8 kv8 k8 hw8;have hRVn:(⟨R,1,none⟩:Addr)≠⟨V,1,none⟩:=fun e=>by injection e with e1;omega
         go_upto_region 20 with fail;rw [HW8.out];clear HW8 hbi hu1 hbs c1 f1 v0 v1 v2 fv1 hRVn;have hcall:=HI.out (m+2) R w8 (by omega) (by omega) H8.out;rw [HY.out] at hcall;have hV0:=HV0.out;cases hX:Ex.readL e .braces y with
         | inl z =>rw [hX] at hcall hV0;have HV:=hY hV0;have HC:=hY hcall;clear hcall hV0 hX HV0;go_wp2_with fail;refine HC.out.mono ?_;rintro a w9 ⟨rfl,k9⟩;have KV9:=hY (k9.blk KV8.out (by show ¬ V=R;omega));have K9:=hY ((K8.out.trans k9).then (Fx.set_ w9 ⟨V,2,none⟩ (.slice none 0 0)) (fun b hb h=>by have h2:b=V:=h;omega));clear k9;have v0:w9.cell? ⟨V,0,none⟩=some (.string (bs N2)):=KV9.out.cell 0;have v1:w9.cell? ⟨V,1,none⟩=some (.int .u8 (op.toNat:Int)):=KV9.out.cell 1;have v2:w9.cell? ⟨V,2,none⟩=some (.slice none 0 0):=KV9.out.cell 2;have fv2:=KV9.out.frozen 2;go_wp2_with fail;go_ret2;rw [HV.out];exact ⟨_,rfl,K9.out⟩
         | inr pr =>
          obtain ⟨l,r2⟩:=pr;rw [hX] at hcall hV0;have HV:=hY hV0;have HC:=hY hcall;clear hcall hV0 hX HV0;go_wp2_with fail;refine HC.out.mono ?_;rintro a w9 ⟨v,xs,rfl,ho9,hp9,hr9,hl9,k9⟩;obtain ⟨A,c,rfl⟩:=zc ho9;have KV9:=hY (k9.blk KV8.out (by show ¬ V=R;omega));have k10:=Fx.set_ w9 ⟨V,2,none⟩ (.slice A xs.length c);have hVl:V<w8.heap.size:=KV8.out.lt;have K10:=hY ((K8.out.trans k9).then k10 (fun b hb h=>by have h2:b=V:=h;omega));have HR10:=hY (k10.blk hr9 (by show ¬ R=V;omega));have HO10:=hY (k10.own ho9 (fun g hg=>by have:=(ho9.lt g hg).1;show ¬ g=V;omega));have HP10:=hY (hp9.fx k10 (X':=fun b=>b<w.heap.size) (fun b hb h=>by
           have h2:w.heap.size≤w8.heap.size:=K8.out.size;rcases h with h | h
           · have h3:b=V:=h;show b<_;omega
           · show b<_;have h3:b<w.heap.size:=h;omega))
          have HSZ:=hY K8.out.size;clear k9 k10 ho9 hp9 hr9;have v0:w9.cell? ⟨V,0,none⟩=some (.string (bs N2)):=KV9.out.cell 0;have v1:w9.cell? ⟨V,1,none⟩=some (.int .u8 (op.toNat:Int)):=KV9.out.cell 1;have v2:w9.cell? ⟨V,2,none⟩=some (.slice none 0 0):=KV9.out.cell 2;have fv2:=KV9.out.frozen 2;go_wp2_with fail;go_ret2;rw [HV.out];obtain ⟨d,hd⟩:=HP10.out;exact ⟨_,d+1,rfl,PV.var (by rw [HNL2.out];unfold zw;omega) (Rx.own HO10.out (fun b hb h=>by have:=HSZ.out;have h2:b<w.heap.size:=h;omega)) (by unfold zw;omega) hd,HR10.out,by omega,K10.out⟩
 · have z1:(bs N).toList.isEmpty=false:=by
    rw [zh];cases N with
    | nil=>have:=HNL.out;simp at this;omega
    | cons _ _=>rfl
   have hz:(bs N).size=n:=by rw [zd];exact HNL.out
   have HZ:=hY hz;have h3:=Rdr.set_ H2.out (p+1+n);have k3:=Fx.set_ w2 ⟨R,1,none⟩ (.int .i64 ((p+1+n:Nat):Int));rw [show ((p+1+n:Nat):Int)=(p:Int)+1+((bs N).size:Int) by omega] at h3 k3;have H3:=hY h3;have K3:=hY (K2.out.trans k3);have hzl:(bs N).size≤2000000:=by omega
   have HV:Hid (x=.inr ([.v N 0 []],r.drop n)):=hY (by rw [←HX.out,Ex.vR_name (by rw [hn.out];exact h0),hn.out,hN.out]);clear hz h3 k3;go_wp2_with fail;go_ret2;rw [HV.out];refine ⟨_,1,rfl,PV.var (by rw [HNL.out];unfold zw;omega) ⟨rfl,fun h=>absurd h (by omega)⟩ (Nat.zero_le _) PVs.nil,?_,by rw [Jn];omega,K3.out⟩;have e:s.length - (r.drop n).length=p+1+n:=by rw [Jn];omega
   rw [e];exact H3.out
theorem Z9 (s:List UInt8) (p:Nat):zC s p p=[]:=by unfold zC;rw [Nat.sub_self,List.take_zero]
theorem Xf {s:List UInt8} {q p:Nat} {c:UInt8} (hq:q≤p) (hc:s[p]?=some c):zC s q (p+1)=zC s q p++[c]:=by unfold zC;rw [show p+1 - q=(p - q)+1 by omega,List.take_add_one,List.getElem?_drop,show q+(p - q)=p by omega,hc];rfl
theorem yi {s:List UInt8} {p:Nat} {c:UInt8} (hc:s[p]?=some c):s.drop p=c::s.drop (p+1):=by obtain ⟨h,e⟩:=List.getElem?_eq_some_iff.1 hc;rw [Js h,e]
namespace Ex
section
variable {s:List UInt8} {e c d:UInt8} {k:Kd} {p q:Nat} {ts:List Tk} {X:R}
theorem go_byte (hq:q≤p) (hc:s[p]?=some c) (hR:readL e k (s.drop p)=adds [.b c] (readL e k (s.drop (p+1)))) (H:adds (ts++(zC s q p).map .b) (readL e k (s.drop p))=X):adds (ts++(zC s q (p+1)).map .b) (readL e k (s.drop (p+1)))=X:=by rw [←H,hR,Yr,Xf hq hc,List.map_append,Kv];rfl
theorem go_esc (hd:s[p+1]?=some d) (hR:readL e k (s.drop p)=adds [.b d] (readL e k (s.drop (p+2)))) (H:adds (ts++(zC s q p).map .b) (readL e k (s.drop p))=X):adds (ts++(zC s q p).map .b++(zC s (p+1) (p+2)).map .b) (readL e k (s.drop (p+2)))=X:=by rw [←H,hR,Yr,show p+2=(p+1)+1 from rfl,Xf (Jd _) hd,Z9];rfl
theorem go_tok {t:List Tk} {p':Nat} (hR:readL e k (s.drop p)=adds t (readL e k (s.drop p'))) (H:adds (ts++(zC s q p).map .b) (readL e k (s.drop p))=X):adds (ts++(zC s q p).map .b++t++(zC s p' p').map .b) (readL e k (s.drop p'))=X:=by rw [←H,hR,Yr,Z9,List.map_nil,Kw]
theorem go_bad {z:Nat} (hR:readL e k (s.drop p)=.inl z) (H:adds (ts++(zC s q p).map .b) (readL e k (s.drop p))=X):X=.inl z:=by rw [←H,hR];rfl
theorem go_fin {r:List UInt8} (hR:readL e k (s.drop p)=.inr ([],r)) (H:adds (ts++(zC s q p).map .b) (readL e k (s.drop p))=X):X=.inr (ts++(zC s q p).map .b,r):=by rw [←H,hR];show Sum.inr (ts++(zC s q p).map .b++[],r)=_;rw [Kw]
theorem vR_suf {r r':List UInt8} {t:List Tk} (h:vR e r=.inr (t,r')):r' <:+ r:=by
 unfold vR at h;cases hv:yQ r with
 | bad=>rw [hv] at h;cases h
 | flat t2 r2 =>rw [hv] at h;injection h with h;injection h with h1 h2;subst h2;exact vst_suf.1 _ _ hv
 | deep n op r2 =>
  rw [hv] at h;simp only at h;cases hb:readL e .braces r2 with
  | inl z=>rw [hb] at h;cases h
  | inr pr =>obtain ⟨l,r3⟩:=pr;rw [hb] at h;injection h with h;injection h with h1 h2;subst h2;exact (readL_suf hb).trans (vst_suf.2 _ _ _ hv)
theorem Qq {l:List UInt8} (h:∀ c∈l,c≠39):l.contains 39=false:=by rw [Bool.eq_false_iff];intro h2;exact h 39 (by simpa using h2) rfl
theorem Xt:∀ (x y:List UInt8),(∀ c∈x,c≠39)→(x++39::y).contains 39=true∧(x++39::y).takeWhile (· != 39)=x∧((x++39::y).dropWhile (· != 39)).drop 1=y
 | [],y,_=>⟨by simp,rfl,rfl⟩
 | c::x,y,h=>by
  obtain ⟨h1,h2,h3⟩:=Xt x y fun d hd=>h d (by simp [hd]);have hc:(c != 39)=true:=by rw [bne_iff_ne];exact h c (by simp)
  rw [List.cons_append,List.takeWhile_cons_of_pos (by simpa using hc),List.dropWhile_cons_of_pos (by simpa using hc),h2];exact ⟨by rw [List.contains_cons,h1,Bool.or_true],rfl,h3⟩
theorem read_q1_no {r:List UInt8} (h0:(39:UInt8)≠e) (hq:quotes k=true) (h:∀ c∈r,c≠39):readL e k (39::r)=.inl 18:=by rw [Yv h0 hq,Qq h];rfl
theorem read_q1 {x y:List UInt8} (h0:(39:UInt8)≠e) (hq:quotes k=true) (h:∀ c∈x,c≠39):readL e k (39::(x++39::y))=adds (x.map .b) (readL e k y):=by obtain ⟨h1,h2,h3⟩:=Xt x y h;rw [Yv h0 hq,h1,h2,h3];rfl
end
end Ex
theorem PV.one_cell {w:World} {X:Nat→Prop} {d:Nat} {ts:List Ex.Tk} {v:Value} (h:PV w X d ts v):v.oneCell'=true:=by
 cases d with
 | zero=>obtain ⟨s,_,_,rfl⟩:=h;rfl
 | succ d =>
  rcases h with ⟨s,_,_,rfl⟩ | ⟨n,op,l,A,m,c,xs,_,_,rfl,_⟩
  · rfl
  · rfl
theorem PV.iface {w:World} {X:Nat→Prop} {d:Nat} {ts:List Ex.Tk} {v:Value} (h:PV w X d ts v):∃ T u,v=.iface T u:=by
 cases d with
 | zero=>obtain ⟨s,_,_,rfl⟩:=h;exact ⟨_,_,rfl⟩
 | succ d =>
  rcases h with ⟨s,_,_,rfl⟩ | ⟨n,op,l,A,m,c,xs,_,_,rfl,_⟩
  · exact ⟨_,_,rfl⟩
  · exact ⟨_,_,rfl⟩
theorem PVs.one_cell {w:World} {X:Nat→Prop} {d:Nat}:∀ {xs:List Value} {ts:List Ex.Tk},PVs (PV w X d) ts xs→∀ u∈xs,u.oneCell'=true
 | [],_,_,_,h=>absurd h (by simp)
 | _::_,_,⟨_,_,_,k1,k2⟩,u,h=>by
  rcases Kn.1 h with rfl | h
  · exact k1.one_cell
  · exact PVs.one_cell k2 u h
theorem PL.one_cell {w:World} {X:Nat→Prop} {ts:List Ex.Tk} {xs:List Value} (h:PL w X ts xs):∀ u∈xs,u.oneCell'=true:=by obtain ⟨d,h⟩:=h;exact h.one_cell
theorem ZL {s:List UInt8} {p:Nat} {r:List UInt8} (h:r <:+ s.drop p):r=s.drop (s.length - r.length):=Ex.suf_drop h
def RL (w:World) (R:Nat) (s:List UInt8) (e:UInt8) (k:Ex.Kd) (p0:Nat) (X:Ex.R) (gk:Nat) (wx:World):Prop:=
 ∃ p q v xs ts,RS wx R w.heap.size s e p q v xs ts∧p0≤q∧q≤p∧p≤s.length∧s.length - p<gk∧xs.length+p0≤q∧Fx (fun b=>b=R) w wx∧Hid (Ex.adds (ts++(zC s q p).map .b) (Ex.readL e k (s.drop p))=X)
theorem Fx.low {S:Nat→Prop} {w w1 w2:World} {B:Nat} (h:Fx S w w1) (k:Below B w1 w2) (hB:w.heap.size≤B):Fx S w w2:=
 h.then (Fx.of_below k) (fun b hb hh=>by omega)
theorem Fx.lowSet {S:Nat→Prop} {w w1:World} (h:Fx S w w1) (b o:Nat) (v:Value) (hB:w.heap.size≤b):Fx S w (w1.setCell ⟨b,o,none⟩ v):=
 h.then (Fx.set_ w1 ⟨b,o,none⟩ v) (fun c hc hh=>by have h2:c=b:=hh;omega)
theorem UV {w:World} {base base' n k:Nat} {e:TypeId} {v:Value} {xs:List Value} (h:w.ownsRow base e k v n xs) (hb:base'≤base):w.ownsRow base' e k v n xs:=by
 refine ⟨h.1,?_⟩;rcases h.2 with h1 | ⟨g,cap,cur,e1,h2,h3⟩
 · exact .inl h1
 · exact .inr ⟨g,cap,cur,e1,Jg hb h2,h3⟩
theorem RS.done {w wx:World} {R:Nat} {s:List UInt8} {e:UInt8} {p0 p q:Nat} {v:Value} {xs:List Value} {ts:List Ex.Tk} {t:List UInt8} (H:RS wx R w.heap.size s e p q v xs ts) (hk:Fx (fun b=>b=R) w wx) (ht:t.length+p=s.length) (hx:xs.length+p0≤p):
  RdOk w R s e p0 ts t (.returned (.tuple #[v,.nilIface])) wx:=by
 refine ⟨v,xs,rfl,UV H.own (by omega),H.pl.fx (S:=fun _=>False) (Fx.refl) (fun b _ h=>h.elim False.elim fun h=>.inl (by have h2:b<w.heap.size:=h;omega)),?_,by omega,hk⟩;rw [show s.length - t.length=p by omega];exact H.rd
end Go.Proofs.YtdaejggcjjdhkaaGreatDoor
