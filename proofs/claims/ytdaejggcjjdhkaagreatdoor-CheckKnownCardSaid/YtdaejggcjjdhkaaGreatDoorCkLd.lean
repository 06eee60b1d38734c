/- stratakit: documents lent and kept, walked. (Printed by wip/genlt.py.) -/
import Derived.Test.YtdaejggcjjdhkaaGreatDoorCkLt
set_option maxHeartbeats 1000000
set_option maxRecDepth 100000
namespace Go.Proofs.YtdaejggcjjdhkaaGreatDoor
open Go Go.RowKit
theorem ldT:Vq Tryz.prog 63 4:=⟨⟨_,Tryz.underlying63⟩,by kernel_rfl⟩
theorem ldK:yP Tryz.prog 39 63 (.agg #[.string ⟨#[]⟩,.bool false,.int .i64 0,.string ⟨#[]⟩]) 4 48:=⟨Tryz.underlying39,by kernel_rfl,rfl,by decide⟩
theorem Vj (l:List Lx.Dc) (x:Lx.Dc):yI (l++[x])=yI l++doL x:=by simp [yI]
def jM (k i:Int):Lx.Dc:=⟨bl (Y2 k i),false,-7,[]⟩
def zQ (n:Nat):List Lx.Dc:=(List.range n).map fun i:Nat=>jM 90 (i:Int)
theorem W3 (n:Nat):zQ (n+1)=zQ n++[jM 90 (n:Int)]:=by simp [zQ,List.range_succ]
theorem Z4 (n:Nat):(zQ n).length=n:=by simp [zQ]
theorem Zn (k i:Int) (w:World) {m:Lx.Dc} (H:Hid (jM k i=m)):Calls Tryz.prog 188 #[.int .i64 k,.int .i64 i] w fun e w'=>e=.returned (.agg #[.string (bs m.name),.bool m.raw,.int .i64 m.line,.string (bs m.text)])∧Below w.heap.size w w':=by
 have hmt:=fun w2=>Zm k i w2;obtain ⟨S,hS⟩:∃ S,Y2 k i=S:=⟨_,rfl⟩
 have HM:Hid (m=⟨bl S,false,-7,[]⟩):=by show _=_;rw [←H.out,jM,hS]
 rw [hS] at hmt;clear hS H;go_enter Tryz.func188,Tryz.ntmps188;go_upto_region 1 with fail;have hK0:=Blk.new w 63 #[.string ⟨#[]⟩,.bool false,.int .i64 0,.string ⟨#[]⟩];have hB0:=(Ja w.heap.size w).alloc (Jd _) (.cells #[.string ⟨#[]⟩,.bool false,.int .i64 0,.string ⟨#[]⟩] 63);obtain ⟨w0,hw0⟩:∃ w0,w.alloc (.cells #[.string ⟨#[]⟩,.bool false,.int .i64 0,.string ⟨#[]⟩] 63)=w0:=⟨_,rfl⟩
 rw [hw0] at hK0 hB0;rw [hw0];clear hw0;have hlt:=hK0.lt;go_wp2_with (first | (go_at_call 196;refine (hmt _).mono ?_;rintro e w1 ⟨rfl,hb1⟩;have hg1:=hK0.below hb1 hlt) | (refine ze rfl _ _ _ rfl ldT w.heap.size _ _ rfl rfl hg1 rfl rfl rfl ?_;intro w2 hB2 hg2 hz2));have hB1:Below w.heap.size w w1:=za hB0 hb1 hB0.size;have hBf:=hB1.grown hg2 hB1.size (fun k e=>by cases e;exact Jd _);refine bodyPost_ret (v:=.agg #[.string S,.bool false,.int .i64 (-7),.string ⟨#[]⟩]) (zo rfl ldT rfl hB2 rfl) rfl ?_;exact ⟨by rw [HM.out];rfl,hBf⟩
theorem U9 (ms:List Lx.Dc) (At:Option Addr) (ct:Nat) (w:World) (hR:SlA w (.slice At ms.length ct) ms.length (yI ms)) (hn:ms.length≤1100000):Calls Tryz.prog 160 #[.slice At ms.length ct] w fun e w'=>(∃ g c,e=.returned (.slice (some ⟨g,0,none⟩) (ms.length+16) c)∧w'.ownsRow w.heap.size 63 4 (.slice (some ⟨g,0,none⟩) (ms.length+16) c) (ms.length+16) (yI (ms++zQ 16)))∧Below w.heap.size w w':=by
 have HR:=hY hR;clear hR;go_enter Tryz.func160,Tryz.ntmps160;go_wp2_with fail;go_loopw [3,4] (fun t3 t4 wr=>∃ i:Nat,i≤ms.length∧t4=.int .i64 (i:Int)∧wr.ownsRow w.heap.size 63 4 t3 i (yI (ms.take i))∧Below w.heap.size w wr) (fun _ t4 _=>ms.length - (intOf t4).toNat)
 case atStart=>exact ⟨0,by omega,rfl,Kj _ _ _ _,Ja _ _⟩
 case round =>
  obtain ⟨i,hi,rfl,hown,hB⟩:=hrel;obtain ⟨AA,ca,rfl⟩:=zc hown;have j0:(0:Int)≤(i:Int):=by omega
  rcases Jh i ms.length with hin | hin
  · have i0:decide ((i:Int)<(ms.length:Int))=true:=dT (by omega);have i1:(i:Int)<(ms.length:Int):=by omega
    have hE:=HR.out.new hB;obtain ⟨g,o,c,hvl,c0,c1,c2,c3⟩:=ZH hE hin;obtain ⟨hA,hcc⟩:At=some ⟨g,o,none⟩∧ct=c:=by injection hvl with e1 _ e3;exact ⟨e1,e3⟩
    subst hA hcc;have hT:Hid (yI (ms.take (i+1))=yI (ms.take i)++doL ms[i]):=hY (by rw [List.take_add_one,Jk hin];exact Vj _ _);obtain ⟨x,hxe⟩:∃ x,ms[i]=x:=⟨_,rfl⟩
    rw [hxe] at c0 c1 c2 c3 hT;have hbs:=hB.size;clear hvl hE hxe;go_wp2_with (at_builtin;refine zg rfl _ _ _ rfl ldK _ _ _ _ rfl (hown.alloc _) _ _ _ _ rfl rfl (zA _ _ (by simp) _ _) (by simp [Value.oneCell']) (by omega) (by omega) (hB.alloc hbs _) (by rw [Jb];omega) ?_;intro v1 w1 ho1 hb1 hg1 hat1;obtain ⟨B1,q1,rfl⟩:=zc ho1);go_roundw
    case rel=>exact ⟨i+1,by omega,by go_num,by rw [hT.out];exact ho1,hb1⟩
    case measure=>simp [intOf];omega
  · have i0:decide ((i:Int)<(ms.length:Int))=false:=dF (by omega);obtain rfl:i=ms.length:=by omega
    rw [Ks] at hown;have HO:Hid (wr.ownsRow w.heap.size 63 4 (.slice AA ms.length ca) (ms.length+0) (yI (ms++zQ 0))):=hY (by rw [show zQ 0=[] from rfl,Kw];exact hown);clear hown;go_wp2_with fail;go_loopw [3,5] (fun t3 t5 wv=>∃ j:Nat,j≤16∧t5=.int .i64 (j:Int)∧wv.ownsRow w.heap.size 63 4 t3 (ms.length+j) (yI (ms++zQ j))∧Below w.heap.size w wv) (fun _ t5 _=>16 - (intOf t5).toNat)
    case atStart=>exact ⟨0,by omega,rfl,HO.out,hB⟩
    case round =>
     clear HO hB;obtain ⟨j,hj,rfl,hown,hB⟩:=hrel;obtain ⟨A2,c2,rfl⟩:=zc hown;rcases Jh j 16 with hjn | hjn
     · have j1:(j:Int)<16:=by omega
       obtain ⟨y,hy⟩:∃ y,Hid (jM 90 (j:Int)=y):=⟨_,hY rfl⟩
       have hT:Hid (yI (ms++zQ (j+1))=yI (ms++zQ j)++doL y):=hY (by rw [W3,hy.out,←Kv,Vj]);go_wp2_with (first | (go_at_call 188;refine (Zn _ _ _ hy).mono ?_;rintro e w1 ⟨rfl,hb1⟩;have hownW:=zy hown hb1;have hBW:=za hB hb1 hB.size;have hbs:=hBW.size) | (at_builtin;refine zg rfl _ _ _ rfl ldK _ _ _ _ rfl (hownW.alloc _) _ _ _ _ rfl rfl (zA _ _ (by simp) _ _) (by simp [Value.oneCell']) (by omega) (by omega) (hBW.alloc hbs _) (by rw [Jb];omega) ?_;intro v1 w2 ho1 hb2 hg1 hat1;obtain ⟨B1,q1,rfl⟩:=zc ho1));go_roundw
       case rel=>exact ⟨j+1,by omega,by go_num,by rw [hT.out];exact ho1,hb2⟩
       case measure=>simp [intOf];omega
     · obtain rfl:j=16:=by omega
       obtain ⟨g,cap,hv,_⟩:=hown.form (by omega);rw [hv] at hown;rw [hv];clear hv;go_wp2_with fail;go_ret;exact ⟨⟨g,cap,rfl,hown⟩,hB⟩
theorem U3 (ms:List Lx.Dc) (At:Option Addr) (ct:Nat) (w:World) (hR:SlA w (.slice At ms.length ct) ms.length (yI ms)) (hn:ms.length≤1100000):Calls Tryz.prog 133 #[.slice At ms.length ct] w fun e w'=>(∃ g c,e=.returned (.slice (some ⟨g,0,none⟩) ms.length c)∧ms.length+16≤c∧w'.ownsRow w.heap.size 63 4 (.slice (some ⟨g,0,none⟩) (ms.length+16) c) (ms.length+16) (yI (ms++zQ 16)))∧Below w.heap.size w w':=by
 have HR:=hY hR;clear hR;go_enter Tryz.func133,Tryz.ntmps133;go_wp2_with fail;refine (U9 ms At ct _ HR.out hn).mono ?_;rintro e w1 ⟨⟨g,c,rfl,ho⟩,b1⟩;have hc:ms.length+16≤c:=by
  rcases Zc ho with ⟨h,_⟩ | ⟨b,c',h,hc⟩
  · cases h
  · simp only [Value.slice.injEq] at h;omega
 have HO:=hY ho;have i1:(0:Int)≤(ms.length:Int):=by omega
 have i2:(ms.length:Int)≤(c:Int):=by omega
 have i3:ms.length≤c:=by omega
 clear ho;go_wp2_with fail;go_ret;exact ⟨⟨g,c,rfl,hc,HO.out⟩,b1⟩
theorem U1 (n i:Nat) (h:i<n):(zQ n)[i]?=some (jM 90 (i:Int)):=by simp [zQ,h]
theorem QZ (es:List Lx.Dc) (i:Nat) (h:i<(es++zQ 16).length):(es++zQ 16)[i]=if h2:i<es.length then es[i] else jM 90 ((i:Int) - (es.length:Int)):=by
 split
 · rename_i h2;rw [List.getElem_append_left h2]
 · rename_i h2;rw [List.getElem_append_right (by omega)];have h3:i - es.length<(zQ 16).length:=by rw [Jf] at h;omega
   have e:=U1 16 (i - es.length) (by rw [Z4] at h3;exact h3);rw [Jk h3] at e;rw [Jc e];congr 1;omega
theorem V0 (z:Lx.Dc) (w:World):(Op.equalIn 10000 63 (.agg #[.string (bs z.name),.bool z.raw,.int .i64 z.line,.string (bs z.text)]) (.agg #[.string (bs z.name),.bool z.raw,.int .i64 z.line,.string (bs z.text)])).run Tryz.prog w=.ok true w:=by rw [run_equalIn_struct w 9999 _ _ _ (by kernel_rfl) (by kernel_rfl)];simp only [Program.fieldsOf,Tryz.underlying63];simp [go_sem,zh]
theorem zai (z:Lx.Dc) (w:World):(binOp .neq 63 (.agg #[.string (bs z.name),.bool z.raw,.int .i64 z.line,.string (bs z.text)]) (.agg #[.string (bs z.name),.bool z.raw,.int .i64 z.line,.string (bs z.text)])).run Tryz.prog w=.ok (.bool false) w:=by rw [run_neq_struct,V0];rfl
theorem Xq (es E:List Lx.Dc) (hE:E=es++zQ 16) (A1 At:Option Addr) (c1 ct:Nat) (w:World) (hR1:SlA w (.slice A1 E.length c1) E.length (yI E)) (hR2:SlA w (.slice At es.length ct) es.length (yI es)) (hn:es.length≤1100000):Calls Tryz.prog 167 #[.slice A1 E.length c1,.slice At es.length ct] w fun e w'=>e=.returned (.bool true)∧Below w.heap.size w w':=by
 have hl:E.length=es.length+16:=by rw [hE,Jf,Z4]
 have HE:Hid (∀ i (h:i<E.length),E[i]=if h2:i<es.length then es[i] else jM 90 ((i:Int) - (es.length:Int))):=hY (by subst hE;exact QZ es);have HR1:=hY hR1;have HR2:=hY hR2;have t0:((E.length:Int) != (es.length:Int)+16)=false:=by rw [hl];simp
 have hl1:E.length≤es.length+16:=by omega
 have hl2:es.length+16≤E.length:=by omega
 clear hR1 hR2 hE hl;go_enter Tryz.func167,Tryz.ntmps167;go_wp2_with fail;go_loopw [5,6] (fun t5 _ wr=>∃ i:Nat,i≤E.length∧t5=.int .i64 (i:Int)∧Below w.heap.size w wr) (fun t5 _ _=>E.length - (intOf t5).toNat)
 case atStart=>exact ⟨0,by omega,rfl,Ja _ _⟩
 case round =>
  obtain ⟨i,hi,rfl,hB⟩:=hrel;have j0:(0:Int)≤(i:Int):=by omega
  rcases Jh i E.length with hin | hin
  · have i0:decide ((i:Int)<(E.length:Int))=true:=dT (by omega);have i1:(i:Int)<(E.length:Int):=by omega
    have hw:IntKind.i64.wrap ((i:Int) - (es.length:Int))=(i:Int) - (es.length:Int):=by unfold IntKind.wrap;simp [IntKind.bits,IntKind.signed];omega
    obtain ⟨y,hy⟩:∃ y,Hid (jM 90 ((i:Int) - (es.length:Int))=y):=⟨_,hY rfl⟩
    have hEi:=HE.out i hin;obtain ⟨z,hz⟩:∃ z,Hid (E[i]=z):=⟨_,hY rfl⟩
    have xn:=zai z;have HOUT:Hid (∀ w2,Below w.heap.size w w2→∃ g o,A1=some ⟨g,o,none⟩∧w2.cell? ⟨g,o+i*4,none⟩=some (.string (bs z.name))∧w2.cell? ⟨g,o+i*4+1,none⟩=some (.bool z.raw)∧w2.cell? ⟨g,o+i*4+2,none⟩=some (.int .i64 z.line)∧w2.cell? ⟨g,o+i*4+3,none⟩=some (.string (bs z.text))):=hY fun w2 hb2=>by obtain ⟨g,o,c,hvl,c0,c1',c2,c3⟩:=ZH (HR1.out.new hb2) hin;rw [hz.out] at c0 c1' c2 c3;injection hvl with e1 _ _;exact ⟨g,o,e1,c0,c1',c2,c3⟩
    by_cases hlt:i<es.length
    · rw [dif_pos hlt,hz.out] at hEi;have k0:decide ((i:Int)<(es.length:Int))=true:=dT (by omega);have k1:(i:Int)<(es.length:Int):=by omega
      have HIN:Hid (∀ w2,Below w.heap.size w w2→∃ g o,At=some ⟨g,o,none⟩∧w2.cell? ⟨g,o+i*4,none⟩=some (.string (bs z.name))∧w2.cell? ⟨g,o+i*4+1,none⟩=some (.bool z.raw)∧w2.cell? ⟨g,o+i*4+2,none⟩=some (.int .i64 z.line)∧w2.cell? ⟨g,o+i*4+3,none⟩=some (.string (bs z.text))):=hY fun w2 hb2=>by obtain ⟨g,o,c,hvl,c0,c1',c2,c3⟩:=ZH (HR2.out.new hb2) hlt;rw [←hEi] at c0 c1' c2 c3;injection hvl with e1 _ _;exact ⟨g,o,e1,c0,c1',c2,c3⟩
      obtain ⟨g2,o2,hA2,_⟩:=HIN.out wr hB;subst hA2;obtain ⟨g1,o1,hA1,_⟩:=HOUT.out wr hB;subst hA1;have HIN1:Hid (∀ w2,Below w.heap.size w w2→w2.cell? ⟨g2,o2+i*4,none⟩=some (.string (bs z.name))∧w2.cell? ⟨g2,o2+i*4+1,none⟩=some (.bool z.raw)∧w2.cell? ⟨g2,o2+i*4+2,none⟩=some (.int .i64 z.line)∧w2.cell? ⟨g2,o2+i*4+3,none⟩=some (.string (bs z.text))):=hY fun w2 hb2=>by obtain ⟨g',o',e,h⟩:=HIN.out w2 hb2;injection e with e;injection e with e3 e4;subst e3 e4;exact h
      have HOUT1:Hid (∀ w2,Below w.heap.size w w2→w2.cell? ⟨g1,o1+i*4,none⟩=some (.string (bs z.name))∧w2.cell? ⟨g1,o1+i*4+1,none⟩=some (.bool z.raw)∧w2.cell? ⟨g1,o1+i*4+2,none⟩=some (.int .i64 z.line)∧w2.cell? ⟨g1,o1+i*4+3,none⟩=some (.string (bs z.text))):=hY fun w2 hb2=>by obtain ⟨g',o',e,h⟩:=HOUT.out w2 hb2;injection e with e;injection e with e3 e4;subst e3 e4;exact h
      clear hEi;go_upto_region 9 with (first | (go_at_call 188;refine (Zn _ _ _ hy).mono ?_;rintro e w1 ⟨rfl,hb1⟩;have hbw1:=za hB hb1 hB.size) | (refine ze rfl _ _ _ rfl ldT w1.heap.size #[.string (bs y.name),.bool y.raw,.int .i64 y.line,.string (bs y.text)] _ rfl rfl (Blk.new _ _ _) rfl rfl rfl ?_;intro w3 hB3 hg3 hz3;have hbw3:=(hbw1.alloc hbw1.size _).grown hg3 (hbw1.alloc hbw1.size _).size (fun k e=>by cases e;exact hbw1.size);obtain ⟨d0,d1,d2,d3⟩:=HIN1.out w3 hbw3) | (refine ze rfl _ _ _ rfl ldT w1.heap.size #[.string (bs z.name),.bool z.raw,.int .i64 z.line,.string (bs z.text)] _ rfl rfl hB3 rfl rfl rfl ?_;intro w4 hB4 hg4 hz4;have hbw4:=hbw3.grown hg4 hbw3.size (fun k e=>by cases e;exact hbw1.size)))
      obtain ⟨e0,e1,e2,e3⟩:=HOUT1.out w4 hbw4;have f0:w4.cell? ⟨w1.heap.size,0,none⟩=some (.string (bs z.name)):=hB4.cell 0;have f1:w4.cell? ⟨w1.heap.size,1,none⟩=some (.bool z.raw):=hB4.cell 1;have f2:w4.cell? ⟨w1.heap.size,2,none⟩=some (.int .i64 z.line):=hB4.cell 2;have f3:w4.cell? ⟨w1.heap.size,3,none⟩=some (.string (bs z.text)):=hB4.cell 3
      try simp only [Act.put]
      go_cut [37] (fun s37 wx=>s37=.bool false∧Below w.heap.size w wx)
      case first =>go_quiet (fail);go_wp2_with fail;go_meet;exact ⟨rfl,by first | exact hbw4 | exact zj hbw4 _⟩
      case rest =>
       obtain ⟨rfl,hbx⟩:=hcut;clear e0 e1 e2 e3 f0 f1 f2 f3 xn;go_wp2_with fail;go_roundw
       case rel=>exact ⟨i+1,by omega,by go_num,hbx⟩
       case measure=>simp [intOf];omega
    · rw [dif_neg hlt,hz.out,hy.out] at hEi;subst hEi;have k0:decide ((i:Int)<(es.length:Int))=false:=dF (by omega);have k1:¬ (i<es.length):=hlt;obtain ⟨g1,o1,hA1,_⟩:=HOUT.out wr hB;subst hA1;have HOUT1:Hid (∀ w2,Below w.heap.size w w2→w2.cell? ⟨g1,o1+i*4,none⟩=some (.string (bs z.name))∧w2.cell? ⟨g1,o1+i*4+1,none⟩=some (.bool z.raw)∧w2.cell? ⟨g1,o1+i*4+2,none⟩=some (.int .i64 z.line)∧w2.cell? ⟨g1,o1+i*4+3,none⟩=some (.string (bs z.text))):=hY fun w2 hb2=>by obtain ⟨g',o',e,h⟩:=HOUT.out w2 hb2;injection e with e;injection e with e3 e4;subst e3 e4;exact h
      go_upto_region 9 with (first | (go_at_call 188;refine (Zn _ _ _ hy).mono ?_;rintro e w1 ⟨rfl,hb1⟩;have hbw1:=za hB hb1 hB.size) | (refine ze rfl _ _ _ rfl ldT w1.heap.size #[.string (bs z.name),.bool z.raw,.int .i64 z.line,.string (bs z.text)] _ rfl rfl (Blk.new _ _ _) rfl rfl rfl ?_;intro w3 hB3 hg3 hz3;have hbw3:=(hbw1.alloc hbw1.size _).grown hg3 (hbw1.alloc hbw1.size _).size (fun k e=>by cases e;exact hbw1.size)))
      obtain ⟨e0,e1,e2,e3⟩:=HOUT1.out w3 hbw3;have f0:w3.cell? ⟨w1.heap.size,0,none⟩=some (.string (bs z.name)):=hB3.cell 0;have f1:w3.cell? ⟨w1.heap.size,1,none⟩=some (.bool z.raw):=hB3.cell 1;have f2:w3.cell? ⟨w1.heap.size,2,none⟩=some (.int .i64 z.line):=hB3.cell 2;have f3:w3.cell? ⟨w1.heap.size,3,none⟩=some (.string (bs z.text)):=hB3.cell 3
      try simp only [Act.put]
      go_cut [37] (fun s37 wx=>s37=.bool false∧Below w.heap.size w wx)
      case first =>go_quiet (fail);go_wp2_with fail;go_meet;exact ⟨rfl,by first | exact hbw3 | exact zj hbw3 _⟩
      case rest =>
       obtain ⟨rfl,hbx⟩:=hcut;clear e0 e1 e2 e3 f0 f1 f2 f3 xn;go_wp2_with fail;go_roundw
       case rel=>exact ⟨i+1,by omega,by go_num,hbx⟩
       case measure=>simp [intOf];omega
  · have i0:decide ((i:Int)<(E.length:Int))=false:=dF (by omega);go_wp2_with fail;go_ret;exact ⟨rfl,hB⟩
theorem U5 (es:List Lx.Dc) (g c:Nat) (At:Option Addr) (ct:Nat) (w:World) (ho:SlA w (.slice (some ⟨g,0,none⟩) (es.length+16) c) (es.length+16) (yI (es++zQ 16))) (hc:es.length+16≤c) (hR2:SlA w (.slice At es.length ct) es.length (yI es)) (hn:es.length≤1100000):
  Calls Tryz.prog 142 #[.slice (some ⟨g,0,none⟩) es.length c,.slice At es.length ct] w fun e w'=>e=.returned (.bool true)∧Below w.heap.size w w':=by
 obtain ⟨E,hE⟩:∃ E,E=es++zQ 16:=⟨_,rfl⟩
 have hl:E.length=es.length+16:=by rw [hE,Jf,Z4]
 have HR1:Hid (SlA w (.slice (some ⟨g,0,none⟩) E.length c) E.length (yI E)):=hY (by rw [←hE,←hl] at ho;exact ho);have HR2:=hY hR2;have HE:=hY hE;have t0:((es.length:Int) != (es.length:Int))=false:=by simp
 have i1:(0:Int)≤(es.length:Int)+16:=by omega
 have i2:(es.length:Int)+16≤(c:Int):=by omega
 clear hR2 hE ho;go_enter Tryz.func142,Tryz.ntmps142;go_wp2_with fail;have hk:=Xq es E HE.out (some ⟨g,0,none⟩) At c ct w HR1.out HR2.out hn;rw [hl] at hk;refine hk.mono ?_;rintro e w1 ⟨rfl,b1⟩;go_wp2_with fail;go_ret;exact ⟨rfl,b1⟩
end Go.Proofs.YtdaejggcjjdhkaaGreatDoor
