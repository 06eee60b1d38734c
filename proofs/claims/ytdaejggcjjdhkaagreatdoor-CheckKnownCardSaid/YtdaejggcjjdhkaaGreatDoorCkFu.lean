/- CkFu, CkKe -/
import Derived.Test.YtdaejggcjjdhkaaGreatDoorExY
import Derived.Test.YtdaejggcjjdhkaaGreatDoorCkV
import Derived.Test.YtdaejggcjjdhkaaGreatDoorMkC
import Derived.Test.YtdaejggcjjdhkaaGreatDoorCkKa
import Derived.Test.YtdaejggcjjdhkaaGreatDoorCkLg
set_option maxHeartbeats 2000000
set_option maxRecDepth 100000
namespace Go.Proofs.YtdaejggcjjdhkaaGreatDoor
open Go Go.RowKit
namespace Ck
theorem full_shape (s:List UInt8):(∃ a t n,((Gl.cutL 58 s=[a]∧t=latest∧n=s.length+7)∨(Gl.cutL 58 s=[a,t]∧n=s.length))∧refR s=(decide (s.length≤96)&&(tagR t&&decide (a≠scratch)&&decide (n≤96)&&(Gl.cutL 47 a).all pieceR)))∨(3≤(Gl.cutL 58 s).length∧refR s=false):=by
 have hne:=Gl.cutL_ne 58 s;unfold refR;rcases hL:Gl.cutL 58 s with _ | ⟨a,_ | ⟨t,_ | ⟨c,r⟩⟩⟩
 · rw [hL] at hne;cases hne
 · refine .inl ⟨a,latest,s.length+7,.inl ⟨rfl,rfl,rfl⟩,?_⟩;have ht:tagR latest=true:=by decide
   rw [ht,Bool.true_and]
 · refine .inl ⟨a,t,s.length,.inr ⟨rfl,rfl⟩,?_⟩;dsimp only;cases decide (s.length≤96) <;> simp
 · exact .inr ⟨by simp,by simp⟩
end Ck
theorem jb (s:List UInt8) (hs:s.length≤70000) (w:World):
  Calls Tryz.prog 105 #[.string (bs s),.int .u8 58] w fun r w'=>∃ v,r=.returned v∧w'.ownsRow w.heap.size 9 1 v (Gl.cutL 58 s).length (sc (Gl.cutL 58 s))∧Below w.heap.size w w':=XM s hs 58 w
theorem jc (s:List UInt8) (hs:s.length≤70000) (w:World):
  Calls Tryz.prog 105 #[.string (bs s),.int .u8 47] w fun r w'=>∃ v,r=.returned v∧w'.ownsRow w.heap.size 9 1 v (Gl.cutL 47 s).length (sc (Gl.cutL 47 s))∧Below w.heap.size w w':=XM s hs 47 w
def FullP (b:Bool) (w:World) (r:Ending) (w':World):Prop:=(∃ x:ByteArray,r=.returned (.tuple #[.string x,.bool b]))∧Below w.heap.size w w'
theorem Q3 (s:List UInt8) (hs:s.length≤70000) (w:World) {b:Bool} (H:Hid (Ck.refR s=b)):Calls Tryz.prog 49 #[.string (bs s)] w (FullP b w):=by
 have hz:=zd s;have HZ:=hY hz;have hs2:(bs s).size≤70000:=by omega
 rcases Jh 96 (bs s).size with h0 | h0
 · have HF:Hid (b=false):=hY (by rw [←H.out,Ck.refR,show decide (s.length≤96)=false by rw [Ka];omega];rfl);have k0:decide ((96:Int)<((bs s).size:Int))=true:=dT (by omega);have k1:(96:Int)<((bs s).size:Int):=by omega
   go_enter Tryz.func49,Tryz.ntmps49;go_wp2_with fail;go_ret2;cases HF.out;exact ⟨⟨_,rfl⟩,Ja _ _⟩
 have k0:decide ((96:Int)<((bs s).size:Int))=false:=dF (by omega);have k1:¬ (96:Int)<((bs s).size:Int):=by omega
 have h96:decide (s.length≤96)=true:=dT (by omega);have HSH:=hY (Ck.full_shape s);obtain ⟨L,hL⟩:∃ L,Hid (Gl.cutL 58 s=L):=⟨_,hY rfl⟩
 have HLL:Hid (L.length≤97):=hY (by have:=Gl.cutL_length 58 s;rw [hL.out] at this;omega);have HPL:Hid (∀ x∈L,x.length≤96):=hY fun x hx=>by rw [←hL.out] at hx;have:=Gl.cutL_piece 58 s x hx;omega
 clear hz;go_enter Tryz.func49,Tryz.ntmps49;go_wp2_with fail;refine (jb s (by omega) w).mono ?_;rintro r w1 ⟨v,rfl,ho,p1⟩;have HP1:=hY p1;rw [hL.out] at ho;have hsh:=HSH.out;simp only [hL.out,h96,Bool.true_and] at hsh;obtain ⟨l,hl⟩:∃ l,L.length=l:=⟨_,rfl⟩
 have hpos:0<L.length:=by rw [←hL.out,Gl.cutL_ne];simp
 rw [hl] at ho hpos;have hl97:l≤97:=by have:=HLL.out;omega
 obtain ⟨g,c,rfl,hg0,hg1⟩:=Yj ho hpos;have HO:=hY ho;clear ho p1 h96 HSH;rcases hsh with ⟨a,t,n,hlr,hrf⟩ | ⟨h3,hrf⟩
 rotate_left
 · have HF:Hid (b=false):=hY (by rw [←H.out];exact hrf);have h3':3≤l:=by rw [←hl];exact h3
   have e0:((l:Int)==1)=false:=bF (by omega);have e1:(l==1)=false:=bF (by omega);have e2:((l:Int) != 2)=true:=by rw [bne_iff_ne];omega
   have e3:(l != 2)=true:=by rw [bne_iff_ne];omega
   clear hrf h3;go_wp2_with fail;go_ret2;cases HF.out;exact ⟨⟨_,rfl⟩,HP1.out⟩
 have HRF:Hid ((Ck.tagR t&&decide (a≠Ck.scratch)&&decide (n≤96)&&(Gl.cutL 47 a).all Ck.pieceR)=b):=hY (by rw [←hrf,H.out]);have HLR:=hY hlr;have hal:a.length≤96:=by have hpl:=HPL.out;rcases hlr with ⟨q,_,_⟩ | ⟨q,_⟩ <;> (rw [q] at hpl;exact hpl a (by simp))
 have htl:t.length≤96:=by
  have hpl:=HPL.out;rcases hlr with ⟨_,q,_⟩ | ⟨q,_⟩
  · rw [q];decide
  · rw [q] at hpl;exact hpl t (by simp)
 clear hlr hrf hg0 hg1;go_upto_if 14 with fail;go_cut [0,4] from 15 to 19 (fun s0 s4 wx=>∃ (x:ByteArray) (g2 c2:Nat),s0=.string x∧x.size=n∧s4=.slice (some ⟨g2,0,none⟩) 2 c2∧Hid (wx.ownsRow w.heap.size 9 1 (.slice (some ⟨g2,0,none⟩) 2 c2) 2 (sc [a,t]))∧Hid (Below w.heap.size w wx))
 case first =>
  rcases HLR.out with ⟨q1,q2,q3⟩ | ⟨q1,q3⟩
  · have hl1:l=1:=by rw [←hl,q1];rfl
    subst hl1;have HO1:Hid (w1.ownsRow w.heap.size 9 1 (.slice (some ⟨g,0,none⟩) 1 c) 1 (sc [a])):=hY (by have r:=HO.out;rwa [q1] at r);obtain ⟨V,hV⟩:∃ V,bs s++(⟨#[58,108,97,116,101,115,116]⟩:ByteArray)=V:=⟨_,rfl⟩
    have hz7:(⟨#[58,108,97,116,101,115,116]⟩:ByteArray).size=7:=rfl;have ad1:∀ w,(Op.stringOp .add (bs s) (⟨#[58,108,97,116,101,115,116]⟩:ByteArray)).run Tryz.prog w=.ok (.string V) w:=fun w=>by rw [←hV];exact run_string_add_sum w _ _ (by omega)
    have HVN:Hid (V.size=n):=hY (by rw [←hV,Kp,hz7,q3];have:=HZ.out;omega);clear hV hz7 q1 q3;go_wp2_with (at_builtin;refine zp rfl _ _ _ rfl Yz w.heap.size _ 1 (sc [a]) rfl (HO1.out.alloc _) _ 1 [Value.string ⟨#[108,97,116,101,115,116]⟩] rfl (jI rfl) rfl (fun u hu=>by rw [Jv] at hu;subst hu;rfl) (by omega) (by omega) (Ja _ _) (by rw [Jb];have:=HP1.out.size;omega) ?_;intro v1 w9 ho1 hb1 hg1 hat1;have HO9:Hid (w9.ownsRow w.heap.size 9 1 v1 2 (sc [a,t])):=hY (by rw [q2];exact ho1);have HB9:=hY ((HP1.out.alloc HP1.out.size _).trans hb1);obtain ⟨g9,c9,rfl,_,_⟩:=Yj ho1 (by omega);clear ho1 hb1 hg1 hat1);go_meet;exact ⟨V,g9,c9,rfl,HVN.out,rfl,HO9,HB9⟩
  · have hl2:l=2:=by rw [←hl,q1];rfl
    subst hl2;have HO1:Hid (w1.ownsRow w.heap.size 9 1 (.slice (some ⟨g,0,none⟩) 2 c) 2 (sc [a,t])):=hY (by have r:=HO.out;rwa [q1] at r);go_wp2_with fail;go_meet;exact ⟨bs s,g,c,rfl,by rw [q3];exact HZ.out,rfl,HO1,HP1⟩
 case rest =>
  obtain ⟨x,g2,c2,rfl,hx,rfl,HO2,HP2⟩:=hcut;rename World=>w2;subst hx;have c0:w2.cell? ⟨g2,0,none⟩=some (.string (bs a)):=by rw [HO2.out.cellAt 0 (by omega)];rfl
  have c1:w2.cell? ⟨g2,1,none⟩=some (.string (bs t)):=by rw [HO2.out.cellAt 1 (by omega)];rfl
  obtain ⟨z1,e1⟩:∃ z,decide ((96:Int)<(x.size:Int))=z:=⟨_,rfl⟩
  obtain ⟨z2,e2⟩:∃ z,((bs a).toList==[115,99,114,97,116,99,104])=z:=⟨_,rfl⟩
  obtain ⟨o,ho⟩:∃ o,Hid (Ck.tagR t=o):=⟨_,hY rfl⟩
  have hz2:decide (a≠Ck.scratch)=!z2:=by rw [←e2,zh,Jz,Jj,Bool.not_eq_true',Jr];exact Iff.rfl
  have hz1:decide (x.size≤96)=!z1:=by rw [←e1,Jz,Jj,Bool.not_eq_true',Ka];omega
  have hs3:=HRF.out;rw [hz1,hz2,ho.out] at hs3;have HS3:=hY hs3;clear hs3 hz1 hz2 HRF HLR HO HP1 k0 k1;go_wp2_with fail;refine (UO t (by omega) w2 ho).mono ?_;rintro e w3 ⟨rfl,rfl⟩;cases o with
  | false =>have HF:Hid (b=false):=hY (by rw [←HS3.out];rfl);go_wp2_with fail;go_ret2;cases HF.out;exact ⟨⟨_,rfl⟩,HP2.out⟩
  | true =>
   cases z2 with
   | true =>have HF:Hid (b=false):=hY (by rw [←HS3.out];rfl);go_wp2_with fail;go_ret2;cases HF.out;exact ⟨⟨_,rfl⟩,HP2.out⟩
   | false =>
    cases z1 with
    | true =>have HF:Hid (b=false):=hY (by rw [←HS3.out];rfl);go_wp2_with fail;go_ret2;cases HF.out;exact ⟨⟨_,rfl⟩,HP2.out⟩
    | false =>
     have HA:Hid ((Gl.cutL 47 a).all Ck.pieceR=b):=hY (by rw [←HS3.out];rfl);clear HS3;obtain ⟨ls,hls⟩:∃ ls,Hid (Gl.cutL 47 a=ls):=⟨_,hY rfl⟩
     have hN:ls.length≤97:=by have:=Gl.cutL_length 47 a;rw [hls.out] at this;omega
     have HPL2:Hid (∀ x∈ls,x.length≤96):=hY fun x hx=>by rw [←hls.out] at hx;have:=Gl.cutL_piece 47 a x hx;omega
     rw [hls.out] at HA;have hnn:0<ls.length:=by rw [←hls.out,Gl.cutL_ne];simp
     go_wp2_with fail;refine (jc a (by omega) w2).mono ?_;rintro e w4 ⟨v,rfl,ho4,p4⟩;rw [hls.out] at ho4;obtain ⟨g4,c4,rfl,_,_⟩:=Yj ho4 hnn;have HO4:=hY ho4;have HP4:=hY (za HP2.out p4 HP2.out.size);have H0:Hid ((ls.drop 0).all Ck.pieceR=b):=hY (by rw [Jw];exact HA.out);clear ho4 p4 HA c0 c1 hnn;go_wp2_with fail;go_loopw [6] (fun t6 wr=>∃ i:Nat,i≤ls.length∧t6=.int .i64 (i:Int)∧Hid ((ls.drop i).all Ck.pieceR=b)∧w4=wr) (fun t6 _=>ls.length - (intOf t6).toNat)
     case atStart=>exact ⟨0,by omega,rfl,H0,by trivial⟩
     case round =>
      clear H0;obtain ⟨i,hi,rfl,HR,rfl⟩:=hrel;have j0:(0:Int)≤(i:Int):=by omega
      rcases Jh i ls.length with hin | hin
      · have i0:decide ((i:Int)<(ls.length:Int))=true:=dT (by omega);have i1:(i:Int)<(ls.length:Int):=by omega
        have hR:=HR.out;rw [Js hin,List.all_cons] at hR;obtain ⟨p,hp⟩:∃ p,ls[i]=p:=⟨_,rfl⟩
        have hci:w4.cell? ⟨g4,i,none⟩=some (.string (bs p)):=by rw [HO4.out.cellAt i (by omega),←hp];simp [sc,hin]
        have hpl:p.length≤96:=by rw [←hp];exact HPL2.out _ (Jl hin)
        obtain ⟨u,hu⟩:∃ u,Hid (Ck.pieceR p=u):=⟨_,hY rfl⟩
        rw [hp,hu.out] at hR;have HR2:=hY hR;clear hR hp HR;go_wp2_with fail;refine (WQ p (by omega) w4 hu).mono ?_;rintro e w5 ⟨rfl,rfl⟩;cases u with
        | false =>have HF:Hid (b=false):=hY (by rw [←HR2.out];rfl);go_wp2_with fail;go_ret2;cases HF.out;exact ⟨⟨_,rfl⟩,HP4.out⟩
        | true =>
         have HR3:Hid ((ls.drop (i+1)).all Ck.pieceR=b):=hY (by rw [←HR2.out];rfl);go_wp2_with fail;go_roundw
         case rel=>exact ⟨i+1,by omega,by go_num,HR3,by trivial⟩
         case measure=>simp [intOf];omega
      · have i0:decide ((i:Int)<(ls.length:Int))=false:=dF (by omega);have e0n:decide (i<ls.length)=false:=dF (by omega);have HF:Hid (b=true):=hY (by rw [←HR.out,Jt hin];rfl);go_wp2_with fail;go_ret2;cases HF.out;exact ⟨⟨_,rfl⟩,HP4.out⟩
theorem Yp (s:List UInt8) (hs:s.length≤70000) (w:World) {b:Bool} (H:Hid (Ck.refR s=b)):Calls Tryz.prog 18 #[.string (bs s)] w fun r w'=>r=.returned (.int .i64 (if b then 0 else 31))∧Below w.heap.size w w':=by
 go_enter Tryz.func18,Tryz.ntmps18;go_wp2_with fail;refine (Q3 s hs w H).mono ?_;rintro r w1 ⟨⟨x,rfl⟩,p1⟩;cases b with
 | true =>go_wp2_with fail;go_ret;exact ⟨rfl,p1⟩
 | false =>go_wp2_with fail;go_ret;exact ⟨rfl,p1⟩
theorem add_b (x y:ByteArray) (h:x.size+y.size≤1000000) (w:World):(Op.stringOp .add x y).run Tryz.prog w=.ok (.string (x++y)) w:=run_string_add_sum w _ _ (by omega)
theorem szA {a b:ByteArray} {m n k:Nat} (h1:a.size≤m) (h2:b.size≤n) (h:m+n≤k:=by decide):(a++b).size≤k:=by rw [Kp];omega
def szOf:Value→Nat
 | .string b=>b.size
 | _=>0
section
variable {N M n:Nat} {w w':World} {u v:Value}
theorem le_mk {op line:Int} {fr mo:List UInt8} {fo ba:Bool} {ps:List Ck.Pr} {ws es:List (List UInt8)} {ds:List Lx.Dc} (h0:ws.length+es.length+ps.length+ds.length≤N) (hw:∀ x∈ws,x.length≤N) (he:∀ x∈es,x.length≤N) (hp:∀ p∈ps,p.key.length≤N∧p.val.length≤N) (hd:∀ d∈ds,d.name.length≤N∧d.text.length≤N)
  (hf:fr.length≤N) (hm:mo.length≤N):StLe N ⟨op,line,fr,mo,fo,ps,ba,ws,ds,es⟩:=⟨h0,fun t ht=>by
 simp only [Ck.textsL,Km,Kn,Kl,or_false,List.mem_flatMap] at ht;rcases ht with (((((rfl | rfl) | ht) | ht) | ⟨p,hq,ht⟩) | ⟨p,hq,ht⟩)
 · exact hf
 · exact hm
 · exact hw t ht
 · exact he t ht
 · rcases ht with rfl | rfl
   · exact (hp p hq).1
   · exact (hp p hq).2
 · rcases ht with rfl | rfl
   · exact (hd p hq).1
   · exact (hd p hq).2⟩
theorem le_w {op line:Int} {ws:List (List UInt8)} (h0:ws.length≤N) (hw:∀ x∈ws,x.length≤N):StLe N ⟨op,line,[],[],false,[],false,ws,[],[]⟩:=le_mk (by simpa using h0) hw fn fn fn (Nat.zero_le _) (Nat.zero_le _)
theorem le_p {op line:Int} {k x:List UInt8} (h0:1≤N) (hk:k.length≤N) (hx:x.length≤N):StLe N ⟨op,line,[],[],false,[⟨k,x⟩],false,[],[],[]⟩:=le_mk (by simpa using h0) fn fn (fc ⟨hk,hx⟩ fn) fn (Nat.zero_le _) (Nat.zero_le _)
theorem StV.docs_ {T:Array Value} {vd:Value} {ds:List Lx.Dc} (h:StV N w (.agg T)) (hd:SlA w vd ds.length (yI ds)) (hn:∀ A n c,vd=.slice A n c→n≤c) (hm:N+ds.length≤M) (hl:∀ d∈ds,d.name.length≤M∧d.text.length≤M):StV M w (.agg (T.setIfInBounds 8 vd)):=by
 obtain ⟨m,e,h1,h2⟩:=h;injection e with e;subst e;have h3:=h2.2;simp only [Ck.textsL] at h3;refine stv_set (s':={ m.s with docs:=ds }) ⟨h1.cp,h1.cw,hd,h1.ce,hn⟩ (le_mk ?_ (fun x hx=>?_) (fun x hx=>?_) (fun p hp=>⟨?_,?_⟩) hl ?_ ?_) rfl
 · have:=h2.1;omega
 all_goals refine Jg (h3 _ ?_) (by omega)
 all_goals simp only [Km,Kn,Kl,or_false,List.mem_flatMap]
 · simp [hx]
 · simp [hx]
 · exact .inl (.inr ⟨p,hp,.inl rfl⟩)
 · exact .inl (.inr ⟨p,hp,.inr rfl⟩)
 · simp
 · simp
theorem sgs1 {g:Nat} {line:Int} {b nm:List UInt8} (hk:Blk w g 53 #[.int .i64 line,.string (bs b),.string (bs nm),v]) (h:StsV N n w v) (hb:b.length≤N) (hm:nm.length≤N) (hn:n≤N):SgsV N 1 w (.slice (some ⟨g,0,none⟩) 1 1):=by obtain ⟨l,rfl,h1,h2⟩:=h;exact ⟨[⟨line,b,nm,v,l⟩],rfl,SlA.blk (cs:=yH [⟨line,b,nm,v,l⟩]) hk,fc ⟨h1,hb,hm,hn,h2⟩ fn⟩
end
def Tx (N:Nat) (_:World) (u:Value):Prop:=∃ x:ByteArray,u=.string x∧x.size≤N
def Txs (N:Nat) (w:World) (u:Value):Prop:=∃ l:List (List UInt8),SlA w u l.length (sc l)∧l.length≤N∧∀ x∈l,x.length≤N
def Dcs (N:Nat) (w:World) (u:Value):Prop:=∃ l:List Lx.Dc,SlA w u l.length (yI l)∧(∀ A n c,u=.slice A n c→n≤c)∧l.length≤N∧∀ d∈l,d.name.length≤N∧d.text.length≤N
def RowV (p:World→Value→Prop) (n:Nat) (w:World) (u:Value):Prop:=∃ (g c:Nat) (us:List Value),u=.slice (some ⟨g,0,none⟩) n c∧us.length=n∧(∀ i x,us[i]?=some x→w.cell? ⟨g,i,none⟩=some x)∧∀ x∈us,p w x
section
variable {N n g c i:Nat} {w w':World} {u:Value} {p:World→Value→Prop}
theorem stab_tx (N:Nat):Stab (Tx N):=fun _ _ _ _ h=>h
theorem stab_txs (N:Nat):Stab (Txs N):=fun _ _ _ k ⟨l,h1,h2⟩=>⟨l,h1.new k,h2⟩
theorem stab_dcs (N:Nat):Stab (Dcs N):=fun _ _ _ k ⟨l,h1,h2⟩=>⟨l,h1.new k,h2⟩
theorem stab_row (hp:Stab p) (n:Nat):Stab (RowV p n):=fun _ w w' k ⟨g,c,us,e,h1,h2,h3⟩=>⟨g,c,us,e,h1,fun i x hx=>(k.cell (p:=⟨g,i,none⟩) (Je w _ (h2 i x hx))).trans (h2 i x hx),fun x hx=>hp x w w' k (h3 x hx)⟩
theorem RowV.blk {t:TypeId} {us:List Value} (h:Blk w g t us.toArray) (hu:∀ x∈us,p w x) (hn:us.length=n:=by rfl):RowV p n w (.slice (some ⟨g,0,none⟩) n c):=⟨g,c,us,rfl,hn,fun i x hx=>by rw [h.cell,List.getElem?_toArray,hx],hu⟩
theorem RowV.el (h:RowV p n w (.slice (some ⟨g,0,none⟩) n c)) (hi:i<n):∃ x,w.cell? ⟨g,i,none⟩=some x∧p w x:=by obtain ⟨g',c',us,e,h1,h2,h3⟩:=h;injection e with e _ _;injection e with e;injection e with e _ _;subst e;have hx:us[i]?=some us[i]:=Jk (by omega);exact ⟨_,h2 i _ hx,h3 _ (Jl _)⟩
theorem RowV.form (h:RowV p n w u):∃ g c,u=.slice (some ⟨g,0,none⟩) n c:=by obtain ⟨g,c,us,e,-⟩:=h;exact ⟨g,c,e⟩
theorem RowV.txs (h:RowV (Tx N) n w u) (hn:n≤N):Txs N w u:=by
 obtain ⟨g,c,us,rfl,rfl,h2,h3⟩:=h;have k:∀ l:List Value,(∀ x∈l,Tx N w x)→∃ q:List (List UInt8),l=sc q∧∀ x∈q,x.length≤N:=fun l=>by
  induction l with
  | nil=>exact fun _=>⟨[],rfl,fn⟩
  | cons x l ih =>intro hl;obtain ⟨q,rfl,hq⟩:=ih fun y hy=>hl y (Kg _ hy);obtain ⟨y,rfl,hy⟩:=hl x Kh;exact ⟨bl y::q,by simp only [sc,List.map_cons,Ym],fc (by rw [Qi];exact hy) hq⟩
 obtain ⟨q,rfl,hq⟩:=k us h3;rw [Zb] at *;exact ⟨q,.inr ⟨g,0,c,rfl,fun j u hu=>by rw [Jq];exact h2 j u hu⟩,hn,hq⟩
theorem Txs.form (h:Txs N w u):∃ (l:List (List UInt8)) (A:Option Addr) (c:Nat),u=.slice A l.length c∧SlA w (.slice A l.length c) l.length (sc l)∧l.length≤N∧∀ x∈l,x.length≤N:=by obtain ⟨l,h1,h2⟩:=h;obtain ⟨A,c,rfl⟩:=h1.form;exact ⟨l,A,c,rfl,h1,h2⟩
theorem Dcs.form (h:Dcs N w u):∃ (l:List Lx.Dc) (A:Option Addr) (c:Nat),u=.slice A l.length c∧SlA w (.slice A l.length c) l.length (yI l)∧l.length≤c∧l.length≤N∧∀ d∈l,d.name.length≤N∧d.text.length≤N:=by obtain ⟨l,h1,h2,h3⟩:=h;obtain ⟨A,c,rfl⟩:=h1.form;exact ⟨l,A,c,rfl,h1,h2 _ _ _ rfl,h3⟩
theorem dn_of {A:Option Addr} {n c:Nat} (h:n≤c):∀ B m d,Value.slice A n c=.slice B m d→m≤d:=fun _ _ _ e=>by injection e with _ e1 e2;omega
theorem Dcs.nil (w:World):Dcs N w (.slice none 0 0):=⟨[],SlA.none w,nil_dn,Nat.zero_le _,fn⟩
theorem Dcs.blk (l:List Lx.Dc) (h:Blk w g 63 (yI l).toArray) (hl:∀ d∈l,d.name.length≤N∧d.text.length≤N) (hm:l.length≤N:=by exact Kk rfl) (hn:l.length=n:=by rfl):Dcs N w (.slice (some ⟨g,0,none⟩) n n):=by subst hn;exact ⟨l,SlA.blk h,dn_of (Jd _),hm,hl⟩
theorem Blk.newK {t:TypeId} {cs:Array Value} (h:w.heap.size=g):Blk (w.alloc (.cells cs t)) g t cs:=h ▸ Blk.new w t cs
theorem Box.but {t:TypeId} {k q:Nat} {u:Value} (h:Box w g t k u) (hg:w.grownBy w' (some q)) (hne:g≠q):Box w' g t k u:=by obtain ⟨T,e,h1,h2⟩:=h;exact ⟨T,e,h1,h2.but hg hne⟩
theorem bx2 {wd:World} {g1 g2:Nat} {Ta Tb:Array Value} (sa:StV N w (.agg Ta)) (sb:StV N w (.agg Tb)) (xa:Box wd g1 41 10 (.agg Ta)) (xb:Box wd g2 41 10 (.agg Tb)) (q:Below w.heap.size w wd) (h1:w.heap.size≤g1) (h2:w.heap.size≤g2) (hne:g1≠g2) (x:List UInt8) (hx:x.length≤N):
  ∃ u v W,(wd.setCell ⟨g1,2,none⟩ (.string (bs x))).setCell ⟨g2,3,none⟩ (.string (bs x))=W∧Box W g1 41 10 u∧Box W g2 41 10 v∧StV N W u∧StV N W v∧Below w.heap.size w W:=by
 have b1:Below w.heap.size w (wd.setCell ⟨g1,2,none⟩ (.string (bs x))):=q.setCell h1 _;have b2:Below w.heap.size w ((wd.setCell ⟨g1,2,none⟩ (.string (bs x))).setCell ⟨g2,3,none⟩ (.string (bs x))):=b1.setCell h2 _;exact ⟨_,_,_,rfl,(xa.setF 2 _).but (yK _ _ _) hne,(xb.but (yK _ _ _) hne.symm).setF 3 _,(sa.from_ x hx).new b2,(sb.mode_ x hx).new b2,b2⟩
theorem bxd {w3:World} {T:Array Value} (sa:StV N w (.agg T)) (xa:Box w3 w.heap.size 41 10 (.agg T)) (q:Below w.heap.size w w3) (z:w3.heap.size=w.heap.size+1) (x:List UInt8) (M:Nat) (hm:N+1≤M) (hx:x.length≤M):
  ∃ u W,(w3.alloc (.cells #[.string ⟨#[69]⟩,.bool false,.int .i64 0,.string (bs x)] 63)).setCell ⟨w.heap.size,8,none⟩ (.slice (some ⟨w3.heap.size,0,none⟩) 1 1)=W∧Box W w.heap.size 41 10 u∧StV M W u∧Below w.heap.size w W:=by
 have b1:Below w.heap.size w (w3.alloc (.cells #[.string ⟨#[69]⟩,.bool false,.int .i64 0,.string (bs x)] 63)):=q.alloc (by omega) _;have b2:Below w.heap.size w ((w3.alloc (.cells #[.string ⟨#[69]⟩,.bool false,.int .i64 0,.string (bs x)] 63)).setCell ⟨w.heap.size,8,none⟩ (.slice (some ⟨w3.heap.size,0,none⟩) 1 1)):=b1.setCell (Jd _) _;have x1:=xa.new ((Ja w3.heap.size w3).alloc (Jd _) (.cells #[.string ⟨#[69]⟩,.bool false,.int .i64 0,.string (bs x)] 63)) xa.lt;exact ⟨_,_,rfl,x1.setF 8 _,StV.docs_ (ds:=[⟨[69],false,0,x⟩]) (sa.new b2) (SlA.blk ((Blk.new w3 _ _).but (yK _ _ _) (by show w3.heap.size≠w.heap.size;omega))) (dn_of (Jd _)) hm (fc ⟨by show 1≤M;omega,hx⟩ fn),b2⟩
end
end Go.Proofs.YtdaejggcjjdhkaaGreatDoor
