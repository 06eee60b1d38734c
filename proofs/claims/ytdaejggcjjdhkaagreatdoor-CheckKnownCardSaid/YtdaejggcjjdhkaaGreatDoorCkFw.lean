/- stratalaw18.few: it returns, and leaves memory alone. (Printed by wip/genfew.py.) -/
import Derived.Test.YtdaejggcjjdhkaaGreatDoorCkV
import Derived.Test.YtdaejggcjjdhkaaGreatDoorProg
import Derived.Deep.DeepCutAuto
import Derived.Deep.CutBlock
import Derived.StillTailTactics
set_option maxHeartbeats 2000000
set_option maxRecDepth 100000
namespace Go.Proofs.YtdaejggcjjdhkaaGreatDoor
open Go Go.RowKit
theorem zac:Vq Tryz.prog 41 10:=⟨⟨_,Tryz.underlying41⟩,by kernel_rfl⟩
def BI (w:World) (b:Nat):Prop:=∃ z:Int,Blk w b 3 #[.int .i64 z]
theorem BI.low {w w':World} {b B:Nat} (h:BI w b) (k:Below B w w') (hb:b<B):BI w' b:=by obtain ⟨z,h⟩:=h;exact ⟨z,h.below k hb⟩
theorem BI.lt {w:World} {b:Nat} (h:BI w b):b<w.heap.size:=by obtain ⟨z,h⟩:=h;exact h.lt
theorem BI.other {w:World} {b g:Nat} (h:BI w b) (v:Value) (hne:b≠g):BI (w.setCell ⟨g,0,none⟩ v) b:=by obtain ⟨z,h⟩:=h;exact ⟨z,(RowKit.Below.heap_setCell _ _ _ _ hne).trans h⟩
theorem BI.same {w:World} {b:Nat} (h:BI w b) (z:Int):BI (w.setCell ⟨b,0,none⟩ (.int .i64 z)) b:=by obtain ⟨y,h⟩:=h;exact ⟨z,by have:=h.set_ 0 (.int .i64 z);simpa using this⟩
structure FW (base b1 b2 b3:Nat) (w wx:World):Prop where
 below:Below base w wx
 size:base≤wx.heap.size
 i1:BI wx b1
 i2:BI wx b2
 i3:BI wx b3
 g1:base≤b1
 g2:base≤b2
 g3:base≤b3
 n12:b1≠b2
 n13:b1≠b3
 n23:b2≠b3
section
variable {base b1 b2 b3:Nat} {w wx wy:World}
theorem FW.new (h:FW base b1 b2 b3 w wx) (k:Below wx.heap.size wx wy):FW base b1 b2 b3 w wy:={ h with below:=h.below.trans (k.mono h.size),size:=Jg h.size k.size,i1:=h.i1.low k h.i1.lt,i2:=h.i2.low k h.i2.lt,i3:=h.i3.low k h.i3.lt }
theorem FW.drew (h:FW base b1 b2 b3 w wx):FW base b1 b2 b3 w wx.drew:=h.new (Ja _ _).drew
theorem FW.set1 (h:FW base b1 b2 b3 w wx) (z:Int):FW base b1 b2 b3 w (wx.setCell ⟨b1,0,none⟩ (.int .i64 z)):={ h with below:=h.below.setCell (p:=⟨b1,0,none⟩) h.g1 _,size:=by rw [zS];exact h.size,i1:=h.i1.same z,i2:=h.i2.other _ (Ne.symm h.n12),i3:=h.i3.other _ (Ne.symm h.n13) }
theorem FW.set2 (h:FW base b1 b2 b3 w wx) (z:Int):FW base b1 b2 b3 w (wx.setCell ⟨b2,0,none⟩ (.int .i64 z)):={ h with below:=h.below.setCell (p:=⟨b2,0,none⟩) h.g2 _,size:=by rw [zS];exact h.size,i1:=h.i1.other _ h.n12,i2:=h.i2.same z,i3:=h.i3.other _ (Ne.symm h.n23) }
theorem FW.set3 (h:FW base b1 b2 b3 w wx) (z:Int):FW base b1 b2 b3 w (wx.setCell ⟨b3,0,none⟩ (.int .i64 z)):={ h with below:=h.below.setCell (p:=⟨b3,0,none⟩) h.g3 _,size:=by rw [zS];exact h.size,i1:=h.i1.other _ h.n13,i2:=h.i2.other _ h.n23,i3:=h.i3.same z }
theorem FW.trans {wz:World} (h:FW base b1 b2 b3 w wx) (k:FW base b1 b2 b3 wx wz):FW base b1 b2 b3 w wz:={ k with below:=h.below.trans k.below }
end
theorem zZ {w:World} {g b:Nat} {t:TypeId} {cs:Array Value} (h:Blk w g t cs) (v:Value) (hne:g≠b):Blk (w.setCell ⟨b,0,none⟩ v) g t cs:=(RowKit.Below.heap_setCell _ _ _ _ hne).trans h
theorem yD {w:World} {g:Nat} {t:TypeId} {cs:Array Value} (h:Blk w g t cs):Blk w.drew g t cs:=h
theorem Yh (a:Act) (v:Value):a.put none v=a:=rfl
theorem UG (b1 b2 b3 base:Nat) (l:List SM) (v:Value) (w0 w:World) (hl:StsA w0 v l) (h0:Below w0.heap.size w0 w) (hb0:w0.heap.size≤base) (hF:FW base b1 b2 b3 w w) (hn:l.length≤1050000) (hs:∀ m∈l,m.s.Small):
  Calls Tryz.prog 34 #[v,.pointer (some ⟨b1,0,none⟩),.pointer (some ⟨b2,0,none⟩),.pointer (some ⟨b3,0,none⟩)] w fun r w'=>r=.returned (.tuple #[])∧FW base b1 b2 b3 w w':=by
 obtain ⟨A,kc,rfl⟩:=hl.1.form;have HL:=hY hl;have H0:=hY h0;have HFW:=hY hF;have HS:=hY hs;obtain ⟨n,hnn⟩:∃ n,l.length=n:=⟨_,rfl⟩
 rw [hnn] at HL hn ⊢;have HNN:=hY hnn;clear hl h0 hF hs hnn;go_enter Tryz.func34,Tryz.ntmps34;go_wp2_with fail;go_loopw [5,6,7,8,9,10] (fun t5 _ _ _ _ _ wr=>∃ i:Nat,i≤n∧t5=.int .i64 (i:Int)∧Hid (FW base b1 b2 b3 w wr)) (fun t5 _ _ _ _ _ _=>n - (intOf t5).toNat)
 case atStart=>exact ⟨0,by omega,rfl,HFW⟩
 case round =>
  as_aux_lemma =>
  clear HFW;rename World=>wr;obtain ⟨i,hi,rfl,HF⟩:=hrel;obtain ⟨z1,hz1⟩:=HF.out.i1;obtain ⟨z2,hz2⟩:=HF.out.i2;obtain ⟨z3,hz3⟩:=HF.out.i3;have e1:wr.cell? ⟨b1,0,none⟩=some (.int .i64 z1):=hz1.cell 0;have e2:wr.cell? ⟨b2,0,none⟩=some (.int .i64 z2):=hz2.cell 0;have e3:wr.cell? ⟨b3,0,none⟩=some (.int .i64 z3):=hz3.cell 0;clear hz1 hz2 hz3;have j0:(0:Int)≤(i:Int):=by omega
  go_upto_region 1 with fail;obtain ⟨a,ha⟩:∃ b,decide ((i:Int)<(n:Int))=b:=⟨_,rfl⟩
  have ha1:decide (i<n)=a:=by rw [←ha];rw [decide_eq_decide];omega
  obtain ⟨p1,hp1⟩:∃ b,decide (z1≤700)=b:=⟨_,rfl⟩
  obtain ⟨p2,hp2⟩:∃ b,decide (z2≤4096)=b:=⟨_,rfl⟩
  obtain ⟨p3,hp3⟩:∃ b,decide (z3≤262144)=b:=⟨_,rfl⟩
  obtain ⟨q,hq⟩:∃ q,Hid ((((a&&p1)&&p2)&&p3)=q):=⟨_,hY rfl⟩
  go_cut [26] from 11 to 25 (fun sq wx=>sq=.bool q∧wr=wx)
  case first =>
   as_aux_lemma =>
   cases a <;> cases p1 <;> cases p2 <;> cases p3 <;> (
    go_wp2_with fail;go_meet;exact ⟨by rw [←hq.out];rfl,rfl⟩)
  case rest =>
   obtain ⟨rfl,rfl⟩:=hcut;cases q with
   | false =>go_wp2_with fail;go_end0;exact ⟨rfl,HF.out⟩
   | true =>
    have hin:i<n:=by
     have h:=hq.out;cases a with
     | false=>cases h
     | true=>exact of_decide_eq_true ha1
    clear ha ha1 hp1 hp2 hp3 hq;have i1:(i:Int)<(n:Int):=by omega
    have hil:i<l.length:=by have:=HNN.out;omega
    have hbx:=H0.out.trans (HF.out.below.mono hb0);have hX:=HL.out.new hbx;rw [←HNN.out] at hX;have hmok:=HL.out.2 _ (Jl hil);have hsm:=HS.out _ (Jl hil);obtain ⟨g,o,c,s,Ap,Aw,Ad,Ae,kp,kw,kd,ke,hv,hse,c0,c1,c2,c3,c4,c5,c6,c7,c8,c9⟩:=yh hX hil;injection hv with hA _ hcc;subst hA hcc;rw [hse] at hmok hsm;have HMO:=hY hmok;obtain ⟨hsl,hst⟩:=hsm;have HST:=hY hst;have hsl':s.words.length+s.exec.length+s.pairs.length+s.docs.length≤1050000:=hsl;clear hX hse hmok hil hbx hsl hst;go_upto_region 4 with (refine ze rfl _ _ _ rfl zac wr.heap.size #[.int .i64 s.op,.int .i64 s.line,.string (bs s.from_),.string (bs s.mode),.bool s.force,.slice Ap s.pairs.length kp,.bool s.bare,.slice Aw s.words.length kw,.slice Ad s.docs.length kd,.slice Ae s.exec.length ke] #[.int .i64 0,.int .i64 0,.string ⟨#[]⟩,.string ⟨#[]⟩,.bool false,.slice none 0 0,.bool false,.slice none 0 0,.slice none 0 0,.slice none 0 0] rfl rfl (Blk.new _ _ _) rfl rfl rfl ?_;intro w7 hK7 hg7 hz7)
    have HF7:=hY (HF.out.new (((Ja wr.heap.size wr).alloc (Jd _) (.cells #[.int .i64 0,.int .i64 0,.string ⟨#[]⟩,.string ⟨#[]⟩,.bool false,.slice none 0 0,.bool false,.slice none 0 0,.slice none 0 0,.slice none 0 0] 41)).trans ((Fx.of_grown hg7).to_below (by rw [Jb];omega) (fun b e=>by injection e with e;omega))));have HK7:=hY hK7;have hG1:=HF.out.i1.lt;have hG2:=HF.out.i2.lt;have hG3:=HF.out.i3.lt;clear hK7 hg7 hz7 HF e1 e2 e3 c0 c1 c2 c3 c4 c5 c6 c7 c8 c9;obtain ⟨G,hG⟩:∃ y,wr.heap.size=y:=⟨_,rfl⟩
    rw [hG] at HK7 hG1 hG2 hG3 ⊢;rw [Yh];clear hG;rename World=>w8;have HF:=HF7;have HK:=HK7;clear HF7 HK7;have d5:w8.cell? ⟨G,5,none⟩=some (.slice Ap s.pairs.length kp):=HK.out.cell 5;have d7:w8.cell? ⟨G,7,none⟩=some (.slice Aw s.words.length kw):=HK.out.cell 7;have d8:w8.cell? ⟨G,8,none⟩=some (.slice Ad s.docs.length kd):=HK.out.cell 8;have d9:w8.cell? ⟨G,9,none⟩=some (.slice Ae s.exec.length ke):=HK.out.cell 9;obtain ⟨z2,hz2⟩:=HF.out.i2;have e2:w8.cell? ⟨b2,0,none⟩=some (.int .i64 z2):=hz2.cell 0;have f2:=hz2.frozen 0;clear hz2;go_cut [] (fun wx=>Hid (FW base b1 b2 b3 w wx)∧Hid (Blk wx G 41 #[.int .i64 s.op,.int .i64 s.line,.string (bs s.from_),.string (bs s.mode),.bool s.force,.slice Ap s.pairs.length kp,.bool s.bare,.slice Aw s.words.length kw,.slice Ad s.docs.length kd,.slice Ae s.exec.length ke]))
    case first =>
     as_aux_lemma =>
     go_wp2_with fail;go_meet;exact ⟨hY (HF.out.set2 _),hY (zZ HK.out _ (by omega))⟩
    case rest =>
     obtain ⟨HFn,HKn⟩:=hcut;rename World=>wn;clear d5 d7 d8 d9 e2 f2 HF HK;have HF:=HFn;have HK:=HKn;clear HFn HKn;go_upto_region 5 with fail;have d2:wn.cell? ⟨G,2,none⟩=some (.string (bs s.from_)):=HK.out.cell 2;have d3:wn.cell? ⟨G,3,none⟩=some (.string (bs s.mode)):=HK.out.cell 3;obtain ⟨z3,hz3⟩:=HF.out.i3;have e3:wn.cell? ⟨b3,0,none⟩=some (.int .i64 z3):=hz3.cell 0;have f3:=hz3.frozen 0;clear hz3;go_cut [] (fun wx=>Hid (FW base b1 b2 b3 w wx)∧Hid (Blk wx G 41 #[.int .i64 s.op,.int .i64 s.line,.string (bs s.from_),.string (bs s.mode),.bool s.force,.slice Ap s.pairs.length kp,.bool s.bare,.slice Aw s.words.length kw,.slice Ad s.docs.length kd,.slice Ae s.exec.length ke]))
     case first =>
      as_aux_lemma =>
      go_wp2_with fail;go_meet;exact ⟨hY (HF.out.set3 _),hY (zZ HK.out _ (by omega))⟩
     case rest =>
      obtain ⟨HFn,HKn⟩:=hcut;rename World=>wn;clear d2 d3 e3 f3 HF HK;have HF:=HFn;have HK:=HKn;clear HFn HKn;go_wp2_with fail;go_loopw [7] (fun tk wx=>∃ k:Nat,k≤s.words.length∧tk=.int .i64 (k:Int)∧Hid (FW base b1 b2 b3 w wx)∧Hid (Blk wx G 41 #[.int .i64 s.op,.int .i64 s.line,.string (bs s.from_),.string (bs s.mode),.bool s.force,.slice Ap s.pairs.length kp,.bool s.bare,.slice Aw s.words.length kw,.slice Ad s.docs.length kd,.slice Ae s.exec.length ke])) (fun tk _=>s.words.length - (intOf tk).toNat)
      case atStart=>exact ⟨0,by omega,rfl,HF,HK⟩
      case round =>
       as_aux_lemma =>
       clear HF HK;rename World=>wl;obtain ⟨k,hk,rfl,HF,HK⟩:=hrel;have jk:(0:Int)≤(k:Int):=by omega
       have d7:wl.cell? ⟨G,7,none⟩=some (.slice Aw s.words.length kw):=HK.out.cell 7;obtain ⟨z3,hz3⟩:=HF.out.i3;have e3:wl.cell? ⟨b3,0,none⟩=some (.int .i64 z3):=hz3.cell 0;have f3:=hz3.frozen 0;clear hz3;go_upto_region 7 with fail;obtain ⟨a,ha⟩:∃ b,decide ((k:Int)<(s.words.length:Int))=b:=⟨_,rfl⟩
       have ha1:decide (k<s.words.length)=a:=by rw [←ha];rw [decide_eq_decide];omega
       obtain ⟨p3,hp3⟩:∃ b,decide (z3≤262144)=b:=⟨_,rfl⟩
       obtain ⟨q,hq⟩:∃ q,Hid ((a&&p3)=q):=⟨_,hY rfl⟩
       go_cut [67] from 59 to 66 (fun sq wx=>sq=.bool q∧wl=wx)
       case first =>
        as_aux_lemma =>
        cases a <;> cases p3 <;> (
         go_wp2_with fail;go_meet;exact ⟨by rw [←hq.out];rfl,rfl⟩)
       case rest =>
        obtain ⟨rfl,rfl⟩:=hcut;cases q with
        | true =>
         have hkn:k<s.words.length:=by
          have h:=hq.out;cases a with
          | false=>cases h
          | true=>exact of_decide_eq_true ha1
         clear ha ha1 hp3 hq;have ik:(k:Int)<(s.words.length:Int):=by omega
         have hbx:=H0.out.trans (HF.out.below.mono hb0);obtain ⟨g2,o2,c2,hv2,u0⟩:=Yf (HMO.out.cw.new hbx) hkn;injection hv2 with hA2 _ hc2;subst hA2 hc2;clear hbx;go_upto_region 9 with fail;clear d7 e3 f3;have d7:wl.cell? ⟨G,7,none⟩=some (.slice (some ⟨g2,o2,none⟩) s.words.length kw):=HK.out.cell 7;obtain ⟨z3,hz3⟩:=HF.out.i3;have e3:wl.cell? ⟨b3,0,none⟩=some (.int .i64 z3):=hz3.cell 0;have f3:=hz3.frozen 0;clear hz3;go_still_tail 8,(by kernel_rfl)
         go_wp2_with fail;go_roundw
         case rel=>first | exact ⟨k+1,by omega,by go_num,hY (HF.out.drew.set3 _),hY (zZ (yD HK.out) _ (by omega))⟩ | exact ⟨_,⟨k+1,by omega,by go_num,hY (HF.out.drew.set3 _),hY (zZ (yD HK.out) _ (by omega))⟩,rfl⟩
         case measure=>simp [intOf];omega
        | false =>
         clear ha ha1 hp3 hq d7 e3 f3;go_wp2_with fail;go_loopw [8] (fun tk wx=>∃ k:Nat,k≤s.exec.length∧tk=.int .i64 (k:Int)∧Hid (FW base b1 b2 b3 w wx)∧Hid (Blk wx G 41 #[.int .i64 s.op,.int .i64 s.line,.string (bs s.from_),.string (bs s.mode),.bool s.force,.slice Ap s.pairs.length kp,.bool s.bare,.slice Aw s.words.length kw,.slice Ad s.docs.length kd,.slice Ae s.exec.length ke])) (fun tk _=>s.exec.length - (intOf tk).toNat)
         case atStart=>exact ⟨0,by omega,rfl,HF,HK⟩
         case round =>
          as_aux_lemma =>
          clear HF HK;rename World=>wl;obtain ⟨k,hk,rfl,HF,HK⟩:=hrel;have jk:(0:Int)≤(k:Int):=by omega
          have d9:wl.cell? ⟨G,9,none⟩=some (.slice Ae s.exec.length ke):=HK.out.cell 9;obtain ⟨z3,hz3⟩:=HF.out.i3;have e3:wl.cell? ⟨b3,0,none⟩=some (.int .i64 z3):=hz3.cell 0;have f3:=hz3.frozen 0;clear hz3;go_upto_region 11 with fail;obtain ⟨a,ha⟩:∃ b,decide ((k:Int)<(s.exec.length:Int))=b:=⟨_,rfl⟩
          have ha1:decide (k<s.exec.length)=a:=by rw [←ha];rw [decide_eq_decide];omega
          obtain ⟨p3,hp3⟩:∃ b,decide (z3≤262144)=b:=⟨_,rfl⟩
          obtain ⟨q,hq⟩:∃ q,Hid ((a&&p3)=q):=⟨_,hY rfl⟩
          go_cut [86] from 78 to 85 (fun sq wx=>sq=.bool q∧wl=wx)
          case first =>
           as_aux_lemma =>
           cases a <;> cases p3 <;> (
            go_wp2_with fail;go_meet;exact ⟨by rw [←hq.out];rfl,rfl⟩)
          case rest =>
           obtain ⟨rfl,rfl⟩:=hcut;cases q with
           | true =>
            have hkn:k<s.exec.length:=by
             have h:=hq.out;cases a with
             | false=>cases h
             | true=>exact of_decide_eq_true ha1
            clear ha ha1 hp3 hq;have ik:(k:Int)<(s.exec.length:Int):=by omega
            have hbx:=H0.out.trans (HF.out.below.mono hb0);obtain ⟨g2,o2,c2,hv2,u0⟩:=Yf (HMO.out.ce.new hbx) hkn;injection hv2 with hA2 _ hc2;subst hA2 hc2;clear hbx;go_upto_region 13 with fail;clear d9 e3 f3;have d9:wl.cell? ⟨G,9,none⟩=some (.slice (some ⟨g2,o2,none⟩) s.exec.length ke):=HK.out.cell 9;obtain ⟨z3,hz3⟩:=HF.out.i3;have e3:wl.cell? ⟨b3,0,none⟩=some (.int .i64 z3):=hz3.cell 0;have f3:=hz3.frozen 0;clear hz3;go_still_tail 8,(by kernel_rfl)
            go_wp2_with fail;go_roundw
            case rel=>first | exact ⟨k+1,by omega,by go_num,hY (HF.out.drew.set3 _),hY (zZ (yD HK.out) _ (by omega))⟩ | exact ⟨_,⟨k+1,by omega,by go_num,hY (HF.out.drew.set3 _),hY (zZ (yD HK.out) _ (by omega))⟩,rfl⟩
            case measure=>simp [intOf];omega
           | false =>
            clear ha ha1 hp3 hq d9 e3 f3;go_wp2_with fail;go_loopw [9] (fun tk wx=>∃ k:Nat,k≤s.pairs.length∧tk=.int .i64 (k:Int)∧Hid (FW base b1 b2 b3 w wx)∧Hid (Blk wx G 41 #[.int .i64 s.op,.int .i64 s.line,.string (bs s.from_),.string (bs s.mode),.bool s.force,.slice Ap s.pairs.length kp,.bool s.bare,.slice Aw s.words.length kw,.slice Ad s.docs.length kd,.slice Ae s.exec.length ke])) (fun tk _=>s.pairs.length - (intOf tk).toNat)
            case atStart=>exact ⟨0,by omega,rfl,HF,HK⟩
            case round =>
             as_aux_lemma =>
             clear HF HK;rename World=>wl;obtain ⟨k,hk,rfl,HF,HK⟩:=hrel;have jk:(0:Int)≤(k:Int):=by omega
             have d5:wl.cell? ⟨G,5,none⟩=some (.slice Ap s.pairs.length kp):=HK.out.cell 5;obtain ⟨z3,hz3⟩:=HF.out.i3;have e3:wl.cell? ⟨b3,0,none⟩=some (.int .i64 z3):=hz3.cell 0;have f3:=hz3.frozen 0;clear hz3;go_upto_region 15 with fail;obtain ⟨a,ha⟩:∃ b,decide ((k:Int)<(s.pairs.length:Int))=b:=⟨_,rfl⟩
             have ha1:decide (k<s.pairs.length)=a:=by rw [←ha];rw [decide_eq_decide];omega
             obtain ⟨p3,hp3⟩:∃ b,decide (z3≤262144)=b:=⟨_,rfl⟩
             obtain ⟨q,hq⟩:∃ q,Hid ((a&&p3)=q):=⟨_,hY rfl⟩
             go_cut [105] from 97 to 104 (fun sq wx=>sq=.bool q∧wl=wx)
             case first =>
              as_aux_lemma =>
              cases a <;> cases p3 <;> (
               go_wp2_with fail;go_meet;exact ⟨by rw [←hq.out];rfl,rfl⟩)
             case rest =>
              obtain ⟨rfl,rfl⟩:=hcut;cases q with
              | true =>
               have hkn:k<s.pairs.length:=by
                have h:=hq.out;cases a with
                | false=>cases h
                | true=>exact of_decide_eq_true ha1
               clear ha ha1 hp3 hq;have ik:(k:Int)<(s.pairs.length:Int):=by omega
               have hbx:=H0.out.trans (HF.out.below.mono hb0);obtain ⟨g2,o2,c2,hv2,u0,u1⟩:=ZB (HMO.out.cp.new hbx) hkn;injection hv2 with hA2 _ hc2;subst hA2 hc2;clear hbx;go_upto_region 17 with fail;clear d5 e3 f3;have d5:wl.cell? ⟨G,5,none⟩=some (.slice (some ⟨g2,o2,none⟩) s.pairs.length kp):=HK.out.cell 5;obtain ⟨z3,hz3⟩:=HF.out.i3;have e3:wl.cell? ⟨b3,0,none⟩=some (.int .i64 z3):=hz3.cell 0;have f3:=hz3.frozen 0;clear hz3;go_still_tail 17,(by kernel_rfl)
               go_wp2_with fail;go_roundw
               case rel=>first | exact ⟨k+1,by omega,by go_num,hY (HF.out.drew.set3 _),hY (zZ (yD HK.out) _ (by omega))⟩ | exact ⟨_,⟨k+1,by omega,by go_num,hY (HF.out.drew.set3 _),hY (zZ (yD HK.out) _ (by omega))⟩,rfl⟩
               case measure=>simp [intOf];omega
              | false =>
               clear ha ha1 hp3 hq d5 e3 f3;go_wp2_with fail;go_loopw [10] (fun tk wx=>∃ k:Nat,k≤s.docs.length∧tk=.int .i64 (k:Int)∧Hid (FW base b1 b2 b3 w wx)∧Hid (Blk wx G 41 #[.int .i64 s.op,.int .i64 s.line,.string (bs s.from_),.string (bs s.mode),.bool s.force,.slice Ap s.pairs.length kp,.bool s.bare,.slice Aw s.words.length kw,.slice Ad s.docs.length kd,.slice Ae s.exec.length ke])) (fun tk _=>s.docs.length - (intOf tk).toNat)
               case atStart=>exact ⟨0,by omega,rfl,HF,HK⟩
               case round =>
                as_aux_lemma =>
                clear HF HK;rename World=>wl;obtain ⟨k,hk,rfl,HF,HK⟩:=hrel;have jk:(0:Int)≤(k:Int):=by omega
                have d8:wl.cell? ⟨G,8,none⟩=some (.slice Ad s.docs.length kd):=HK.out.cell 8;obtain ⟨z3,hz3⟩:=HF.out.i3;have e3:wl.cell? ⟨b3,0,none⟩=some (.int .i64 z3):=hz3.cell 0;have f3:=hz3.frozen 0;clear hz3;go_upto_region 19 with fail;obtain ⟨a,ha⟩:∃ b,decide ((k:Int)<(s.docs.length:Int))=b:=⟨_,rfl⟩
                have ha1:decide (k<s.docs.length)=a:=by rw [←ha];rw [decide_eq_decide];omega
                obtain ⟨p3,hp3⟩:∃ b,decide (z3≤262144)=b:=⟨_,rfl⟩
                obtain ⟨q,hq⟩:∃ q,Hid ((a&&p3)=q):=⟨_,hY rfl⟩
                go_cut [133] from 125 to 132 (fun sq wx=>sq=.bool q∧wl=wx)
                case first =>
                 as_aux_lemma =>
                 cases a <;> cases p3 <;> (
                  go_wp2_with fail;go_meet;exact ⟨by rw [←hq.out];rfl,rfl⟩)
                case rest =>
                 obtain ⟨rfl,rfl⟩:=hcut;cases q with
                 | true =>
                  have hkn:k<s.docs.length:=by
                   have h:=hq.out;cases a with
                   | false=>cases h
                   | true=>exact of_decide_eq_true ha1
                  clear ha ha1 hp3 hq;have ik:(k:Int)<(s.docs.length:Int):=by omega
                  have hbx:=H0.out.trans (HF.out.below.mono hb0);obtain ⟨g2,o2,c2,hv2,u0,-,-,u3⟩:=ZH (HMO.out.cd.new hbx) hkn;injection hv2 with hA2 _ hc2;subst hA2 hc2;clear hbx;go_upto_region 21 with fail;clear d8 e3 f3;have d8:wl.cell? ⟨G,8,none⟩=some (.slice (some ⟨g2,o2,none⟩) s.docs.length kd):=HK.out.cell 8;obtain ⟨z3,hz3⟩:=HF.out.i3;have e3:wl.cell? ⟨b3,0,none⟩=some (.int .i64 z3):=hz3.cell 0;have f3:=hz3.frozen 0;clear hz3;go_still_tail 17,(by kernel_rfl)
                  go_wp2_with fail;go_roundw
                  case rel=>first | exact ⟨k+1,by omega,by go_num,hY (HF.out.drew.set3 _),hY (zZ (yD HK.out) _ (by omega))⟩ | exact ⟨_,⟨k+1,by omega,by go_num,hY (HF.out.drew.set3 _),hY (zZ (yD HK.out) _ (by omega))⟩,rfl⟩
                  case measure=>simp [intOf];omega
                 | false =>
                  clear ha ha1 hp3 hq d8 e3 f3;go_wp2_with fail;go_roundw
                  case rel=>first | exact ⟨i+1,by omega,by go_num,HF⟩ | exact ⟨_,_,_,_,_,_,⟨i+1,by omega,by go_num,HF⟩,rfl,rfl,rfl,rfl,rfl,rfl⟩
                  case measure=>simp [intOf];omega
end Go.Proofs.YtdaejggcjjdhkaaGreatDoor
