/- stratalaw18.docs, walked. (Printed by wip/gendocs.py.) -/
import Derived.Test.YtdaejggcjjdhkaaGreatDoorCkFu
import Derived.Test.YtdaejggcjjdhkaaGreatDoorCkRl
import Derived.Lib.ItoaWalk
set_option maxHeartbeats 2000000
set_option maxRecDepth 100000
namespace Go.Proofs.YtdaejggcjjdhkaaGreatDoor
open Go Go.RowKit
theorem docs_any (w:World) (E:Env w):Calls Tryz.prog 32 #[] w (Yes w):=by
 have HE:=hY E;clear E;go_enter Tryz.func32,Tryz.ntmps32;go_wp2_with fail;go_loopw [1,2] (fun t1 t2 wr=>wr=w∧∃ (i:Nat) (s:ByteArray),i≤96∧s.size≤i∧t2=.int .i64 (i:Int)∧t1=.string s) (fun _ t2 _=>96 - (intOf t2).toNat)
 case atStart=>exact ⟨rfl,0,⟨#[]⟩,by omega,by decide,rfl,rfl⟩
 case round =>
  obtain ⟨rfl,i,s,hi,hs,rfl,rfl⟩:=hrel;rename World=>w;have j0:(0:Int)≤(i:Int):=by omega
  rcases Jh i 96 with hin | hin
  · have i0:decide ((i:Int)<96)=true:=dT (by omega);have i1:(i:Int)<96:=by omega
    go_wp2_with fail;go_roundw
    case rel=>exact ⟨by trivial,i+1,_,by omega,by rw [Kp];exact Ko hs,by go_num,rfl⟩
    case measure=>simp [intOf];omega
  · have i0:decide ((i:Int)<96)=false:=dF (by omega);have i1:¬ (i:Int)<96:=by omega
    have hl:s.size≤100:=by omega
    clear hs;have z1:((⟨#[60,60]⟩:ByteArray)++s).size≤110:=szA (m:=10) (by decide) hl;have z2:((⟨#[60,60,39]⟩:ByteArray)++s).size≤110:=szA (m:=10) (by decide) hl;have z3:(((⟨#[60,60]⟩:ByteArray)++s)++⟨#[69]⟩).size≤120:=szA (n:=10) z1 (by decide);have z4:(((⟨#[60,60,39]⟩:ByteArray)++s)++⟨#[39]⟩).size≤120:=szA (n:=10) z2 (by decide);go_upto_region 8 with fail;go_name_world W hW;clear i0 i1 j0 hin hi;have D:=hY (show RowV (Tx 200) 22 W (.slice (some ⟨w.heap.size,0,none⟩) 22 22) by rw [←hW];exact RowV.blk (Blk.new _ _ _) (by repeat' first | exact fn | refine fc ⟨_,rfl,by first | assumption | decide | omega⟩ ?_));have PW:Below w.heap.size w W:=by rw [←hW];exact (Ja _ _).alloc (Jd _) _
    have EW:=hY (HE.out.new PW);have PW:=hY PW;obtain ⟨l,rfl⟩:∃ l,s=bs l:=⟨bl s,(Ym s).symm⟩
    have HL2:=hY (show l.length≤100 by rwa [zd] at hl);clear hW HE z1 z2 z3 z4 hl;obtain ⟨G,hG⟩:∃ G,w.heap.size=G:=⟨_,rfl⟩
    rw [hG] at D ⊢;have HG:=hY hG;clear hG;go_loopw [27,5,7,9] (fun t27 _ _ _ wr=>∃ i:Nat,i≤22∧t27=.int .i64 (i:Int)∧Hid (Below W.heap.size W wr)) (fun t27 _ _ _ _=>22 - (intOf t27).toNat)
    case atStart=>exact ⟨0,by omega,rfl,hY (Ja _ _)⟩
    case round =>
     rename World=>wr;obtain ⟨i,hi,rfl,HB⟩:=hrel;have j0:(0:Int)≤(i:Int):=by omega
     rcases Jh i 22 with hin | hin
     · have i0:decide ((i:Int)<22)=true:=dT (by omega);have i1:(i:Int)<22:=by omega
       obtain ⟨u,hc,x,rfl,hx⟩:=(stab_row (stab_tx _) _ _ _ _ HB.out D.out).el hin;have HX:=hY hx;clear hx;go_upto_region 11 with fail;go_name_world W2 hW2;have hl:=HL2.out;have B2:Below wr.heap.size wr W2:=by
        rw [←hW2]
        repeat' first | exact Ja _ _ | refine Below.alloc ?_ (by first | exact Jd _ | (simp only [Jb];omega)) _
       have d1:Dcs 200 W2 (.slice (some ⟨wr.heap.size,0,none⟩) 1 1):=Dcs.blk [⟨[69],false,0,[]⟩] (by rw [←hW2];(iterate 14 apply Blk.alloc);exact Blk.newK (by first | with_reducible rfl | simp only [Jb])) (fc ⟨by decide,by decide⟩ fn);have d2:Dcs 200 W2 (.slice (some ⟨wr.heap.size+1,0,none⟩) 1 1):=Dcs.blk [⟨[69],true,0,[]⟩] (by rw [←hW2];(iterate 13 apply Blk.alloc);exact Blk.newK (by first | with_reducible rfl | simp only [Jb])) (fc ⟨by decide,by decide⟩ fn);have d3:Dcs 200 W2 (.slice (some ⟨wr.heap.size+1+1,0,none⟩) 1 1):=Dcs.blk [⟨[70],false,0,[]⟩] (by rw [←hW2];(iterate 12 apply Blk.alloc);exact Blk.newK (by first | with_reducible rfl | simp only [Jb])) (fc ⟨by decide,by decide⟩ fn);have d4:Dcs 200 W2 (.slice (some ⟨wr.heap.size+1+1+1,0,none⟩) 1 1):=Dcs.blk [⟨[49],false,0,[]⟩] (by rw [←hW2];(iterate 11 apply Blk.alloc);exact Blk.newK (by first | with_reducible rfl | simp only [Jb])) (fc ⟨by decide,by decide⟩ fn);have d5:Dcs 200 W2 (.slice (some ⟨wr.heap.size+1+1+1+1,0,none⟩) 1 1):=Dcs.blk [⟨[95],false,0,[]⟩] (by rw [←hW2];(iterate 10 apply Blk.alloc);exact Blk.newK (by first | with_reducible rfl | simp only [Jb])) (fc ⟨by decide,by decide⟩ fn);have d6:Dcs 200 W2 (.slice (some ⟨wr.heap.size+1+1+1+1+1,0,none⟩) 1 1):=Dcs.blk [⟨l,false,0,[]⟩] (by rw [←hW2];(iterate 9 apply Blk.alloc);exact Blk.newK (by first | with_reducible rfl | simp only [Jb])) (fc ⟨Jg hl (by decide),Nat.zero_le _⟩ fn);have d7:Dcs 200 W2 (.slice (some ⟨wr.heap.size+1+1+1+1+1+1,0,none⟩) 1 1):=Dcs.blk [⟨l,true,0,[]⟩] (by rw [←hW2];(iterate 8 apply Blk.alloc);exact Blk.newK (by first | with_reducible rfl | simp only [Jb])) (fc ⟨Jg hl (by decide),Nat.zero_le _⟩ fn)
       have d8:Dcs 200 W2 (.slice (some ⟨wr.heap.size+1+1+1+1+1+1+1,0,none⟩) 2 2):=Dcs.blk [⟨[69],false,0,[]⟩,⟨[69],false,0,[]⟩] (by rw [←hW2];(iterate 7 apply Blk.alloc);exact Blk.newK (by first | with_reducible rfl | simp only [Jb])) (fc ⟨by decide,by decide⟩ (fc ⟨by decide,by decide⟩ fn));have d9:Dcs 200 W2 (.slice (some ⟨wr.heap.size+1+1+1+1+1+1+1+1,0,none⟩) 1 1):=Dcs.blk [⟨[69],false,0,[36,123]⟩] (by rw [←hW2];(iterate 6 apply Blk.alloc);exact Blk.newK (by first | with_reducible rfl | simp only [Jb])) (fc ⟨by decide,by decide⟩ fn);have d10:Dcs 200 W2 (.slice (some ⟨wr.heap.size+1+1+1+1+1+1+1+1+1,0,none⟩) 1 1):=Dcs.blk [⟨[69],true,0,[36,123]⟩] (by rw [←hW2];(iterate 5 apply Blk.alloc);exact Blk.newK (by first | with_reducible rfl | simp only [Jb])) (fc ⟨by decide,by decide⟩ fn);have d11:Dcs 200 W2 (.slice (some ⟨wr.heap.size+1+1+1+1+1+1+1+1+1+1,0,none⟩) 1 1):=Dcs.blk [⟨[69],false,0,[39]⟩] (by rw [←hW2];(iterate 4 apply Blk.alloc);exact Blk.newK (by first | with_reducible rfl | simp only [Jb])) (fc ⟨by decide,by decide⟩ fn);have d12:Dcs 200 W2 (.slice (some ⟨wr.heap.size+1+1+1+1+1+1+1+1+1+1+1,0,none⟩) 1 1):=Dcs.blk [⟨[69],false,0,[36,123,65,58,45,39]⟩] (by rw [←hW2];(iterate 3 apply Blk.alloc);exact Blk.newK (by first | with_reducible rfl | simp only [Jb])) (fc ⟨by decide,by decide⟩ fn);have d13:Dcs 200 W2 (.slice (some ⟨wr.heap.size+1+1+1+1+1+1+1+1+1+1+1+1,0,none⟩) 1 1):=Dcs.blk [⟨[69],false,0,[255]⟩] (by rw [←hW2];(iterate 2 apply Blk.alloc);exact Blk.newK (by first | with_reducible rfl | simp only [Jb])) (fc ⟨by decide,by decide⟩ fn)
       have d14:Dcs 200 W2 (.slice (some ⟨wr.heap.size+1+1+1+1+1+1+1+1+1+1+1+1+1,0,none⟩) 1 1):=Dcs.blk [⟨[],false,0,[]⟩] (by rw [←hW2];(iterate 1 apply Blk.alloc);exact Blk.newK (by first | with_reducible rfl | simp only [Jb])) (fc ⟨by decide,by decide⟩ fn);have DD:=hY (show RowV (Dcs 200) 15 W2 (.slice (some ⟨wr.heap.size+1+1+1+1+1+1+1+1+1+1+1+1+1+1,0,none⟩) 15 15) from RowV.blk (by rw [←hW2];exact Blk.newK (by first | with_reducible rfl | simp only [Jb])) (fc (Dcs.nil _) (fc d1 (fc d2 (fc d3 (fc d4 (fc d5 (fc d6 (fc d7 (fc d8 (fc d9 (fc d10 (fc d11 (fc d12 (fc d13 (fc d14 fn))))))))))))))));obtain ⟨G2,hG2⟩:∃ G,wr.heap.size+1+1+1+1+1+1+1+1+1+1+1+1+1+1=G:=⟨_,rfl⟩
       rw [hG2] at DD ⊢;have P2:=hY (HB.out.trans (B2.mono HB.out.size));clear hG2 hW2 B2 hl hc i0 HB d1 d2 d3 d4 d5 d6 d7 d8 d9 d10 d11 d12 d13 d14;go_loopw [64,7,9] (fun t64 _ _ wz=>∃ j:Nat,j≤15∧t64=.int .i64 (j:Int)∧Hid (Below W2.heap.size W2 wz)) (fun t64 _ _ _=>15 - (intOf t64).toNat)
       case atStart=>exact ⟨0,by omega,rfl,hY (Ja _ _)⟩
       case round =>
        rename World=>wz;obtain ⟨j,hj,rfl,HC⟩:=hrel;have k0:(0:Int)≤(j:Int):=by omega
        rcases Jh j 15 with hjn | hjn
        · have k1:decide ((j:Int)<15)=true:=dT (by omega);have k2:(j:Int)<15:=by omega
          obtain ⟨v,hc,hv⟩:=(stab_row (stab_dcs _) _ _ _ _ HC.out DD.out).el hjn;obtain ⟨ds,A,c,rfl,hd⟩:=hv.form;have HV:=hY hd;clear hv hd;go_upto_region 14 with fail;go_name_world W3 hW3;have B3:Below wz.heap.size wz W3:=by
           rw [←hW3]
           repeat' first | exact Ja _ _ | refine Below.alloc ?_ (by first | exact Jd _ | (simp only [Jb];omega)) _
          have t1:Txs 200 W3 (.slice (some ⟨wz.heap.size,0,none⟩) 2 2):=RowV.txs (RowV.blk (p:=Tx 200) (by rw [←hW3];(iterate 5 apply Blk.alloc);exact Blk.newK (by first | with_reducible rfl | simp only [Jb])) (fc ⟨x,rfl,HX.out⟩ (fc ⟨⟨#[98]⟩,rfl,by decide⟩ (fn)))) (by decide);have t2:Txs 200 W3 (.slice (some ⟨wz.heap.size+1,0,none⟩) 2 2):=RowV.txs (RowV.blk (p:=Tx 200) (by rw [←hW3];(iterate 4 apply Blk.alloc);exact Blk.newK (by first | with_reducible rfl | simp only [Jb])) (fc ⟨⟨#[97]⟩,rfl,by decide⟩ (fc ⟨x,rfl,HX.out⟩ (fn)))) (by decide);have t3:Txs 200 W3 (.slice (some ⟨wz.heap.size+1+1,0,none⟩) 3 3):=RowV.txs (RowV.blk (p:=Tx 200) (by rw [←hW3];(iterate 3 apply Blk.alloc);exact Blk.newK (by first | with_reducible rfl | simp only [Jb])) (fc ⟨x,rfl,HX.out⟩ (fc ⟨x,rfl,HX.out⟩ (fc ⟨⟨#[98]⟩,rfl,by decide⟩ (fn))))) (by decide);have t4:Txs 200 W3 (.slice (some ⟨wz.heap.size+1+1+1,0,none⟩) 4 4):=RowV.txs (RowV.blk (p:=Tx 200) (by rw [←hW3];(iterate 2 apply Blk.alloc);exact Blk.newK (by first | with_reducible rfl | simp only [Jb])) (fc ⟨x,rfl,HX.out⟩ (fc ⟨⟨#[60,60,70]⟩,rfl,by decide⟩ (fc ⟨⟨#[39]⟩,rfl,by decide⟩ (fc ⟨⟨#[98]⟩,rfl,by decide⟩ (fn)))))) (by decide);have t5:Txs 200 W3 (.slice (some ⟨wz.heap.size+1+1+1+1,0,none⟩) 3 3):=RowV.txs (RowV.blk (p:=Tx 200) (by rw [←hW3];(iterate 1 apply Blk.alloc);exact Blk.newK (by first | with_reducible rfl | simp only [Jb])) (fc ⟨⟨#[97]⟩,rfl,by decide⟩ (fc ⟨x,rfl,HX.out⟩ (fc ⟨⟨#[36,123]⟩,rfl,by decide⟩ (fn))))) (by decide);have TT:=hY (show RowV (Txs 200) 5 W3 (.slice (some ⟨wz.heap.size+1+1+1+1+1,0,none⟩) 5 5) from RowV.blk (by rw [←hW3];exact Blk.newK (by first | with_reducible rfl | simp only [Jb])) (fc t1 (fc t2 (fc t3 (fc t4 (fc t5 fn))))));obtain ⟨G3,hG3⟩:∃ G,wz.heap.size+1+1+1+1+1=G:=⟨_,rfl⟩
          rw [hG3] at TT ⊢;have B4:=hY B3;have P3:=hY (HC.out.trans (B3.mono HC.out.size));clear hG3 hW3 B3 hc k1 k2 HC t1 t2 t3 t4 t5;go_loopw [81,9] (fun t81 _ wy=>∃ k:Nat,k≤5∧t81=.int .i64 (k:Int)∧Hid (Below W3.heap.size W3 wy)) (fun t81 _ _=>5 - (intOf t81).toNat)
          case atStart=>exact ⟨0,by omega,rfl,hY (Ja _ _)⟩
          case round =>
           rename World=>wy;obtain ⟨k,hk,rfl,HD⟩:=hrel;have q0:(0:Int)≤(k:Int):=by omega
           rcases Jh k 5 with hkn | hkn
           · have q1:decide ((k:Int)<5)=true:=dT (by omega);have q2:(k:Int)<5:=by omega
             obtain ⟨v,hc,hv⟩:=(stab_row (stab_txs _) _ _ _ _ HD.out TT.out).el hkn;obtain ⟨ws,A2,c2,rfl,hw⟩:=hv.form;have HE4:=hY (EW.out.new (P2.out.trans ((P3.out.trans (HD.out.mono P3.out.size)).mono P2.out.size)));have hd:SlA wy (.slice A ds.length c) ds.length (yI ds):=(HV.out.1.new B4.out).new HD.out;have S1:=hY (StV.mk (N:=1048576) 5 2 [] [] false false [] ws ds [] (SlA.none _) hw.1 hd (SlA.none _) (dn_of HV.out.2.1) (le_mk (by have:=hw.2.1;have:=HV.out.2.2.1;simp;omega) (fun y hy=>Jg (hw.2.2 y hy) (by decide)) fn fn (fun y hy=>⟨Jg (HV.out.2.2.2 y hy).1 (by decide),Jg (HV.out.2.2.2 y hy).2 (by decide)⟩) (by decide) (by decide)));have S2:=hY (StV.mk (N:=1048576) 6 2 [] [] false false [] ws [] [] (SlA.none _) hw.1 (SlA.none _) (SlA.none _) nil_dn (le_w (by have:=hw.2.1;omega) (fun y hy=>Jg (hw.2.2 y hy) (by decide))));obtain ⟨n,hn⟩:∃ n,ds.length=n:=⟨_,rfl⟩
             obtain ⟨m,hm⟩:∃ m,ws.length=m:=⟨_,rfl⟩
             rw [hn] at S1 ⊢;rw [hm] at S1 S2 hc;clear hd hw hv hn hm;rcases n with _ | n
             ·
              go_wp2_with fail;refine (kSteps false S1.out HE4.out).mono ?_;rintro r w5 ⟨rfl,p5⟩;go_wp2_with fail;refine (kSteps false (S2.out.new p5) (HE4.out.new p5)).mono ?_;rintro r w6 ⟨rfl,p6⟩;go_wp2_with fail;go_roundw
              case rel=>exact ⟨k+1,by omega,by go_num,hY (HD.out.trans ((p5.trans (p6.mono p5.size)).mono HD.out.size))⟩
              case measure=>simp [intOf];omega
             · have y0:(((n+1:Nat):Int)==0)=false:=bF (by omega);have y1:decide (((n+1:Nat):Int)=0)=false:=dF (by omega);have y2:¬ ((n+1:Nat):Int)=0:=by omega
               go_wp2_with fail;refine (kSteps false S1.out HE4.out).mono ?_;rintro r w5 ⟨rfl,p5⟩;go_wp2_with fail;go_roundw
               case rel=>exact ⟨k+1,by omega,by go_num,hY (HD.out.trans (p5.mono HD.out.size))⟩
               case measure=>simp [intOf];omega
           · have q1:decide ((k:Int)<5)=false:=dF (by omega);have q2:¬ (k:Int)<5:=by omega
             go_wp2_with fail;go_roundw
             case rel=>exact ⟨j+1,by omega,by go_num,hY (P3.out.trans (HD.out.mono P3.out.size))⟩
             case measure=>simp [intOf];omega
        · have k1:decide ((j:Int)<15)=false:=dF (by omega);have k2:¬ (j:Int)<15:=by omega
          go_wp2_with fail;go_roundw
          case rel=>exact ⟨i+1,by omega,by go_num,hY (P2.out.trans (HC.out.mono P2.out.size))⟩
          case measure=>simp [intOf];omega
     · have i0:decide ((i:Int)<22)=false:=dF (by omega);have i1:¬ (i:Int)<22:=by omega
       go_wp2_with fail;go_ret;exact ⟨rfl,PW.out.trans (HB.out.mono PW.out.size)⟩
end Go.Proofs.YtdaejggcjjdhkaaGreatDoor
