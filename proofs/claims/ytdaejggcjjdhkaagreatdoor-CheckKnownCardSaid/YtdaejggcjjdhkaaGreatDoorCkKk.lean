/- CkKk, CkKm -/
import Derived.Test.YtdaejggcjjdhkaaGreatDoorCkKf
set_option maxRecDepth 100000
namespace Go.Proofs.YtdaejggcjjdhkaaGreatDoor
open Go Go.RowKit
def In (a b:Nat) (_:World) (u:Value):Prop:=∃ j:Nat,u=.int .i64 (j:Int)∧a≤j∧j≤b
theorem stab_in (a b:Nat):Stab (In a b):=fun _ _ _ _ h=>h
def NW (B:Nat) (w0:World) (i:Nat) (w:World) (v4 v5:Value):Prop:=∃ (ws:List (List UInt8)) (ps:List Ck.Pr),ws.length=i∧ps.length=i∧w.ownsRow B 9 1 v4 i (sc ws)∧w.ownsRow B 61 2 v5 i (yV ps)∧(∀ x∈ws,x.length≤100)∧(∀ x∈ps,x.key.length≤100∧x.val.length≤100)∧Below B w0 w
theorem NW.nil (w:World):NW w.heap.size w 0 w (.slice none 0 0) (.slice none 0 0):=⟨[],[],rfl,rfl,Kj _ _ _ _,Kj _ _ _ _,fn,fn,Ja _ _⟩
def NS (B:Nat) (w0:World) (i:Nat) (w:World) (v:Value):Prop:=∃ us:List Value,us.length=i∧(∀ u∈us,PairV 1 [65] [] w u)∧w.ownsRow B 41 10 v i (us.flatMap fun u=>u.cells.toList)∧Below B w0 w
theorem NS.nil (w:World):NS w.heap.size w 0 w (.slice none 0 0):=⟨[],rfl,fn,Kj _ _ _ _,Ja _ _⟩
section
variable {op:Int} {k x:List UInt8} {w w':World} {u v:Value} {N n B:Nat}
theorem PairV.new (h:PairV op k x w u) (b:Below w.heap.size w w'):PairV op k x w' u:=by obtain ⟨p,e,h⟩:=h;exact ⟨p,e,h.below b h.lt⟩
theorem PairV.alloc (h:PairV op k x w u) (o:Obj):PairV op k x (w.alloc o) u:=h.new ((Ja _ _).alloc (Jd _) o)
theorem PairV.kept {xs:List Value} (h:PairV op k x w u) (ho:w.ownsRow B 41 10 v n xs) (hg:w.grownBy w' v.ownBlock):PairV op k x w' u:=by
 obtain ⟨p,e,h⟩:=h;refine ⟨p,e,(hg.block p h.lt (fun q=>?_)).trans h⟩;rcases ho.2 with ⟨rfl,_⟩ | ⟨g,cap,cur,rfl,_,hg',_⟩
 · cases q
 · injection q with q;have q':p=g:=q;subst q';have h1:=Jc (h.symm.trans hg');injection h1 with _ h2 _;exact absurd h2 (by decide)
theorem NS.sts {us:List Value} (h1:us.length=n) (h2:∀ u∈us,PairV 1 [65] [] w u) (h3:w.ownsRow B 41 10 v n (us.flatMap fun u=>u.cells.toList)):StsV 100 n w v:=by obtain ⟨l,e1,e2,e3,e4⟩:=stvs (N:=100) us fun u hu=>(h2 u hu).st ⟨by decide,by decide⟩;rw [e2] at h3;exact ⟨l,by omega,⟨by rw [e1,h1];exact SlA.own h3,e3⟩,e4⟩
theorem StsV.take {g c d m:Nat} (h:StsV N n w (.slice (some ⟨g,0,none⟩) n c)) (hm:m≤n):StsV N m w (.slice (some ⟨g,0,none⟩) m d):=by
 obtain ⟨l,e,⟨h1,h2⟩,h3⟩:=h;refine ⟨l.take m,by rw [Kt];omega,⟨?_,fun y hy=>h2 y (List.mem_of_mem_take hy)⟩,fun y hy=>h3 y (List.mem_of_mem_take hy)⟩;rw [show (l.take m).length=m by rw [Kt];omega];refine .inr ⟨g,0,d,rfl,fun j u hu=>?_⟩;have hp:yv (l.take m) <+: yv l:=by rw [←List.take_append_drop m l,yv,yv,Kf,List.take_append_drop];exact ⟨_,rfl⟩
 obtain ⟨t,ht⟩:=hp;have hu':(yv l)[j]?=some u:=by rw [←ht,Kb (List.getElem?_eq_some_iff.1 hu).1];exact hu
 obtain ⟨g',o',c',e',hc⟩:=h1.get hu';injection e' with e' _ _;injection e' with e';injection e' with e1 e2 _;subst e1 e2;exact hc
theorem StsV.form0 (h:StsV N n w v):∃ A c,v=.slice A n c:=by obtain ⟨l,rfl,h1,-⟩:=h;exact h1.1.form
end
def GS (B:Nat) (w0:World) (i:Nat) (w:World) (v:Value):Prop:=∃ gs:List GM,gs.length=i∧w.ownsRow B 53 4 v i (yH gs)∧(∀ g∈gs,g.vs=.slice none 0 0∧g.ms=[]∧g.base.length≤100∧g.name.length≤100)∧Below B w0 w
theorem GS.nil (w:World):GS w.heap.size w 0 w (.slice none 0 0):=⟨[],rfl,Kj _ _ _ _,fn,Ja _ _⟩
theorem GS.sgs {B n:Nat} {w:World} {v:Value} {gs:List GM} (h1:gs.length=n) (h2:∀ g∈gs,g.vs=.slice none 0 0∧g.ms=[]∧g.base.length≤100∧g.name.length≤100) (h3:w.ownsRow B 53 4 v n (yH gs)):SgsV 100 n w v:=by refine ⟨gs,h1,by rw [h1];exact SlA.own h3,fun g hg=>?_⟩;obtain ⟨e1,e2,e3,e4⟩:=h2 g hg;refine ⟨by rw [e1,e2];exact ⟨SlA.none _,fun m hm=>(by cases hm)⟩,e3,e4,by rw [e2];exact Nat.zero_le _,fun m hm=>?_⟩;rw [e2] at hm;cases hm
theorem gm_snoc (gs:List GM) (line:Int) (X:ByteArray):yH (gs++[⟨line,[98],bl X,.slice none 0 0,[]⟩])=yH gs++[.int .i64 line,.string ⟨#[98]⟩,.string X,.slice none 0 0]:=by simp only [yH,Kf,Ke,List.flatMap_nil,Kw,VU,Ym];rfl
theorem conv2 (W:World) (T:TypeId) (a b:Int):(convert 98 9 (.slice (some ⟨W.heap.size,0,none⟩) 2 2)).run Tryz.prog (W.alloc (.cells #[.int .u8 a,.int .u8 b] T))=.ok (.string (bs [UInt8.ofNat a.toNat,UInt8.ofNat b.toNat])) (W.alloc (.cells #[.int .u8 a,.int .u8 b] T)):=by
 have hx:=run_convert_bytes_arg (P:=Tryz.prog) (W.alloc (.cells #[.int .u8 a,.int .u8 b] T)) 98 5 Tryz.underlying98 Tryz.underlying5 W.heap.size 0 2 2 [a,b] rfl (fun i hi=>by
  obtain rfl | rfl:i=0∨i=1:=by omega
  · exact (Blk.new W T #[.int .u8 a,.int .u8 b]).cell 0
  · exact (Blk.new W T #[.int .u8 a,.int .u8 b]).cell 1) 9 Tryz.underlying9
 rw [hx];simp [strOfNums,bs]
theorem wp_appk {P:Program} {W W0:World} {o:Oper} {a:Act} {K:Act→World→Prop} {Q:Exit→Act→World→Prop} (s x:Operand) (t:TypeId)
  (ho:o.op=.call { callee:=.builtin .append,args:=#[s,x],argTypes:=#[t,t] })
  {e:TypeId} {z:Value} {k bytes:Nat} (E:yP P t e z k bytes)
  (base:Nat) (v:Value) (n:Nat) (xs:List Value) (hs:a.eval s=v) (hown:W.ownsRow base e k v n xs)
  (ad:Addr) (m c:Nat) (news:List Value) (hx:a.eval x=.slice (some ad) m c) (hl:news.length=m*k) (hnews:∀ j u,news[j]?=some u→W.cell? (ad.add j)=some u) (h1:∀ u∈news,u.oneCell'=true)
  (h63:n+m≤9223372036854775807) (hbytes:(n+m)*bytes≤140737488355328) (hb:Below base W0 W) (hbase:base≤W.heap.size)
  (h:∀ v' w',w'.ownsRow base e k v' (n+m) (xs++news)→Below base W0 w'→K (a.put o.dst v') w'):o.wp P a W K Q:=by
 obtain ⟨i,hi,hz,hsz,hby⟩:=info_parts E.hi;obtain ⟨v',w',hr,h2,h3,_,_⟩:=run_append_own_at (P:=P) W base t o.type e i z k bytes E.ht hi hz hsz hby E.hz E.h0 v n xs hown ad m c news hl hnews h1 (by unfold maxLen;omega) hbytes hbase;unfold Oper.wp execOp;simp only [ho,resolve,invoke,builtin,Sem.run_bind,Sem.run_pure,Result.andThen_ok,List.map_toArray,List.map_cons,List.map_nil,hs,hx,hr];exact h v' w' h2 (hb.grown h3 hbase (fun k hk=>(hown.lt k hk).1))
theorem u8_of {b:Nat} (h:b<256):∃ y:UInt8,(y.toNat:Int)=(b:Int):=⟨UInt8.ofNat b,by rw [UInt8.toNat_ofNat',Nat.mod_eq_of_lt h]⟩
def gm0:GM:=⟨0,[],[],.slice none 0 0,[]⟩
theorem rep_gm:∀ n j:Nat,(yH (List.replicate n gm0))[j]?=if j<n*4 then (VU gm0)[j % 4]? else none
 | 0,j=>by simp [yH]
 | n+1,j=>by
  rw [List.replicate_succ,yH,Ke,List.getElem?_append];have hl:(VU gm0).length=4:=rfl;rw [hl];rcases Jh j 4 with h | h
  · rw [if_pos h,if_pos (by omega),Nat.mod_eq_of_lt h]
  · rw [if_neg (by omega)];have q:=rep_gm n (j - 4);rw [yH] at q;rw [q,show (j - 4) % 4=j % 4 by omega];rcases Jh j ((n+1)*4) with h2 | h2
    · rw [if_pos (by omega),if_pos h2]
    · rw [if_neg (by omega),if_neg (by omega)]
theorem made_gm (n:Nat):(madeCells (.agg #[.int .i64 0,.string ⟨#[]⟩,.string ⟨#[]⟩,.slice none 0 0]:Value).cells (n*4)).toList=yH (List.replicate n gm0):=by
 refine List.ext_getElem? fun j=>?_;rw [rep_gm,madeCells,Array.getElem?_toList];rcases Jh j (n*4) with h | h
 · rw [if_pos h,Array.getElem?_eq_getElem (by simpa using h),Array.getElem_map,Array.getElem_range];have h4:j % 4<4:=Nat.mod_lt _ (by decide);show some ((#[.int .i64 0,.string ⟨#[]⟩,.string ⟨#[]⟩,.slice none 0 0]:Array Value)[j % 4]!)=_;generalize j % 4=q at h4 ⊢
   match q,h4 with
   | 0,_=>rfl
   | 1,_=>rfl
   | 2,_=>rfl
   | 3,_=>rfl
   | q+4,h=>omega
 · rw [if_neg (by omega),Array.getElem?_eq_none (by simpa using h)]
theorem mk_sgs (w:World) (n:Nat) (hn:n≤100):∃ w',(Instr.makeSlice 23 (.int .i64 (n:Int)) (.int .i64 (n:Int))).run Tryz.prog w=.ok (.slice (some ⟨w.heap.size,0,none⟩) n n) w'∧SgsV 100 n w' (.slice (some ⟨w.heap.size,0,none⟩) n n)∧Below w.heap.size w w':=by obtain ⟨i,hi,hz,hsz,hby⟩:=info_parts Uh.hi;obtain ⟨w',h1,h2,h3⟩:=run_makeSlice_full (P:=Tryz.prog) w w.heap.size 23 53 i _ 4 Uh.ht hi hz hsz .i64 .i64 n (by omega) (by rw [hby];omega) (by unfold maxLen;omega) (Jd _);rw [made_gm] at h2;refine ⟨w',h1,⟨List.replicate n gm0,List.length_replicate,by rw [List.length_replicate];exact SlA.own h2,fun g hg=>?_⟩,(Fx.of_grown h3).to_below (Jd _) (fun b e=>by cases e)⟩;rw [List.eq_of_mem_replicate hg];exact ⟨⟨SlA.none _,fun m hm=>(by cases hm)⟩,Nat.zero_le _,Nat.zero_le _,Nat.zero_le _,fun m hm=>(by cases hm)⟩
theorem la {α:Type} {p:α→Prop} {l:List α} {a:α} (h:∀ x∈l,p x) (ha:p a):∀ x∈l++[a],p x:=fun x hx=>by
 rcases Km.1 hx with hx | hx
 · exact h x hx
 · rw [Jv] at hx;exact hx ▸ ha
def n25L (a:Value) (n k B:Nat):List (World→Value→Prop):=[fun _ u=>u=a,fun _ u=>u=.int .i64 (n:Int),fun _ u=>u=.int .i64 (k:Int),StsV 100 k,fun _ u=>u=a,StsV 100 150,SgV 200,fun _ u=>u=a,StsV 100 50,SgV 200,SgsV 200 2,FlV 1048576,Bx B]
theorem n25S (a:Value) (n k B:Nat):∀ p∈n25L a n k B,Stab p:=fun p hp=>by
 simp only [n25L,Kn,Kl,or_false] at hp;rcases hp with rfl | rfl | rfl | rfl | rfl | rfl | rfl | rfl | rfl | rfl | rfl | rfl | rfl
 all_goals first | exact stab_eq _ | exact stab_tx _ | exact stab_ptx _ | exact stab_ix _ | exact stab_pst _ | exact stab_st _ | exact stab_sts _ _ | exact stab_sg _ | exact stab_sgs _ _ | exact stab_fl _ | exact stab_bx _ | exact stab_sl _ _ | exact stab_row (stab_tx _) _
def n26L (a:Value) (n:Nat):List (World→Value→Prop):=[fun _ u=>u=a,fun _ u=>u=.bool true,fun _ u=>u=.bool false,fun _ u=>u=.bool false,fun _ u=>u=a,fun w u=>SlA w u 1 (sc [[117]]),StV 1048576,fun _ u=>u=.bool true,fun _ u=>u=.bool false,fun _ u=>u=.bool false,fun _ u=>u=.bool false,fun _ u=>u=a,fun _ u=>u=.int .i64 (n:Int),fun _ u=>u=.bool true,fun _ u=>u=.bool false,fun _ u=>u=.bool false]
theorem n26S (a:Value) (n:Nat):∀ p∈n26L a n,Stab p:=fun p hp=>by
 simp only [n26L,Kn,Kl,or_false] at hp;rcases hp with rfl | rfl | rfl | rfl | rfl | rfl | rfl | rfl | rfl | rfl | rfl | rfl | rfl | rfl | rfl | rfl
 all_goals first | exact stab_eq _ | exact stab_tx _ | exact stab_ptx _ | exact stab_ix _ | exact stab_pst _ | exact stab_st _ | exact stab_sts _ _ | exact stab_sg _ | exact stab_sgs _ _ | exact stab_fl _ | exact stab_bx _ | exact stab_sl _ _ | exact stab_row (stab_tx _) _
def Sl (B:Nat) (w:World) (e:TypeId) (k:Nat) (v:Value) (n:Nat) (xs:List Value):Prop:=w.ownsRow B e k v n xs∨(SlA w v n xs∧(∃ A,v=.slice A n n)∧(∀ p,v.ownBlock=some p→p<B)∧xs.length=n*k)
section
variable {B g k n N M:Nat} {w w' w0 w1:World} {e:TypeId} {v:Value} {xs:List Value} {row:Option Nat} {cs:Array Value}
theorem Sl.sla (h:Sl B w e k v n xs):SlA w v n xs:=h.elim SlA.own fun h=>h.1
theorem sla_below (h:SlA w v n xs) (b:Below B w w') (hp:∀ p,v.ownBlock=some p→p<B):SlA w' v n xs:=by
 rcases h with h | ⟨g,o,c,rfl,hc⟩
 · exact .inl h
 · exact .inr ⟨g,o,c,rfl,fun j u hu=>(b.cell (p:=⟨g,o+j,none⟩) (hp g rfl)).trans (hc j u hu)⟩
theorem Sl.kept (h:Sl B w e k v n xs) (hg:w.grownBy w' row) (b:Below B w w') (hne:v.ownBlock=none∨v.ownBlock≠row):Sl B w' e k v n xs:=
 h.elim (fun h=>.inl (h.kept hg hne)) fun h=>.inr ⟨sla_below h.1 b h.2.2.1,h.2⟩
theorem Sl.new (h:Sl B w e k v n xs) (b:Below w.heap.size w w'):Sl B w' e k v n xs:=
 h.elim (fun h=>.inl (zy h b)) fun h=>.inr ⟨h.1.new b,h.2⟩
theorem Sl.ne (h:Sl B w e k v n xs) (hb:Blk w g 41 cs) (hg:B≤g) (he:e≠41):v.ownBlock=none∨v.ownBlock≠some g:=by
 rcases h with h | h
 · rcases h.2 with ⟨rfl,_⟩ | ⟨g',cap,cur,rfl,_,hg',_⟩
   · exact .inl rfl
   · refine .inr fun q=>?_;injection q with q;have q':g'=g:=q;subst q';have h1:=Jc (hb.symm.trans hg');injection h1 with _ h2 _;exact he h2.symm
 · refine .inr fun q=>?_;have:=h.2.2.1 g q;omega
theorem Sl.lt (h:Sl B w e k v n xs) (hB:B≤w.heap.size) (p:Nat) (hp:v.ownBlock=some p):p<w.heap.size:=by
 rcases h with h | h
 · exact (h.lt p hp).2
 · have:=h.2.2.1 p hp;omega
theorem Sl.oty {e':TypeId} {k' n':Nat} {v':Value} {xs':List Value} (h:Sl B w e k v n xs) (hr:row=none∨row=v'.ownBlock∧w.ownsRow B e' k' v' n' xs') (hne:e≠e'):v.ownBlock=none∨v.ownBlock≠row:=by
 rcases hv:v.ownBlock with _ | p
 · exact .inl rfl
 · refine .inr ?_;rintro rfl;rcases hr with hr | ⟨hr,ho⟩
   · cases hr
   · rcases h with h | h
     · rcases XA h ho hne with q | q
       · rw [hv] at q;cases q
       · exact q (hv.trans hr)
     · have:=h.2.2.1 p hv;have:=(ho.lt p hr.symm).1;omega
theorem Sl.owe {k' n':Nat} {v':Value} {xs':List Value} (hr:row=none∨row=v'.ownBlock∧w.ownsRow B e k' v' n' xs') (hw:∀ p,v'.ownBlock=some p→v.ownBlock≠some p):v.ownBlock=none∨v.ownBlock≠row:=by
 rcases hv:v.ownBlock with _ | p
 · exact .inl rfl
 · refine .inr ?_;rintro rfl;rcases hr with hr | ⟨hr,-⟩
   · cases hr
   · exact hw p hr.symm hv
theorem row_ne {e':TypeId} {k' n':Nat} {v':Value} {xs':List Value} (hr:row=none∨row=v'.ownBlock∧w.ownsRow B e' k' v' n' xs') (hb:Blk w g 41 cs) (hg:B≤g) (he:e'≠41):row≠some g:=by
 rintro rfl;rcases hr with hr | ⟨hr,ho⟩
 · cases hr
 · rcases Sl.ne (.inl ho) hb hg he with q | q
   · rw [q] at hr;cases hr
   · exact q hr.symm
theorem blk_keep {t:TypeId} (h:Blk w g t cs) (hg:w.grownBy w' row) (hne:row≠some g):Blk w' g t cs:=(hg.block g h.lt fun q=>hne q.symm).trans h
theorem wp_appT {o:Oper} {a:Act} {K:Act→World→Prop} {Q:Exit→Act→World→Prop} (s x:Operand) (t:TypeId)
  (ho:o.op=.call { callee:=.builtin .append,args:=#[s,x],argTypes:=#[t,t] })
  {z:Value} {bytes:Nat} (E:yP Tryz.prog t e z k bytes) (hB:B≤w.heap.size)
  (hs:a.eval s=v) (h:Sl B w e k v n xs)
  (ad:Addr) (m c:Nat) (news:List Value) (hx:a.eval x=.slice (some ad) m c) (hl:news.length=m*k) (hnews:∀ j u,news[j]?=some u→w.cell? (ad.add j)=some u) (h1:∀ u∈news,u.oneCell'=true)
  (hm:0<m) (h63:n+m≤1000) (hby:bytes≤1000)
  (hK:∀ v' w' row,w'.ownsRow B e k v' (n+m) (xs++news)→Below B w w'→w.grownBy w' row→(row=none∨row=v.ownBlock∧w.ownsRow B e k v n xs)→(∀ q,v'.ownBlock=some q→v.ownBlock=some q∨w.heap.size≤q)→K (a.put o.dst v') w'):o.wp Tryz.prog a w K Q:=by
 obtain ⟨i,hi,hz,hsz,hbi⟩:=info_parts E.hi;have hbytes:(n+m)*bytes≤140737488355328:=by have:=Nat.mul_le_mul h63 hby;omega
 unfold Oper.wp execOp;simp only [ho,resolve,invoke,builtin,Sem.run_bind,Sem.run_pure,Result.andThen_ok,List.map_toArray,List.map_cons,List.map_nil,hs,hx];have h':w.ownsRow B e k v n xs∨∃ a,v=.slice (some a) n n∧SlA w v n xs∧xs.length=n*k:=by
  rcases h with h | ⟨h2,⟨A,rfl⟩,h3,h4⟩
  · exact .inl h
  · rcases A with _ | a
    · have e0:n=0∧xs=[]:=by
       rcases h2 with ⟨_,h⟩ | ⟨_,_,_,h,_⟩
       · exact h
       · injection h with h;cases h
      obtain ⟨rfl,rfl⟩:=e0;exact .inl (Kj w B e k)
    · exact .inr ⟨a,rfl,h2,h4⟩
 clear h;rcases h' with hown | ⟨⟨g,q,sp⟩,rfl,h2,h4⟩
 · obtain ⟨v',w',hr,k2,k3,_,k5⟩:=run_append_own_at (P:=Tryz.prog) w B t o.type e i z k bytes E.ht hi hz hsz hbi E.hz E.h0 v n xs hown ad m c news hl hnews h1 (by unfold maxLen;omega) hbytes hB;rw [hr];refine hK v' w' _ k2 ((Ja B w).grown k3 hB (fun k hk=>(hown.lt k hk).1)) k3 (.inr ⟨rfl,hown⟩) fun q hq=>?_;rcases k5 with k5 | k5
   · exact .inl (k5 ▸ hq)
   · rw [k5] at hq;injection hq with hq;exact .inr (by omega)
 · have hx2:xs.length=n*k∧∀ j u,xs[j]?=some u→w.cell? ((⟨g,q,sp⟩:Addr).add j)=some u:=by
    refine ⟨h4,?_⟩;rcases h2 with ⟨_,_,rfl⟩ | ⟨g',o',c',e',hc⟩
    · intro j u hu;simp at hu
    · injection e' with e' _ _;injection e' with e';injection e' with e1 e2 e3;subst e1 e2 e3;intro j u hu;rw [Xh];exact hc j u hu
   obtain ⟨v',w',hr,k2,k3⟩:=run_append_arg_grows (P:=Tryz.prog) w t o.type e i z k bytes E.ht hi hz hsz hbi E.hz E.h0 ⟨g,q,sp⟩ n n xs hx2.1 hx2.2 ad m c news hl hnews (by omega) (by unfold maxLen;omega) hbytes;rw [hr];exact hK v' w' none ⟨k2.1,k2.2.imp id fun ⟨g,cap,cur,a,b,r⟩=>⟨g,cap,cur,a,Jg hB b,r⟩⟩ ((Fx.of_grown k3).to_below hB (fun b e=>by cases e)) k3 (.inl rfl) fun q hq=>.inr (k2.lt q hq).1
end
structure BoxK (g:Nat) (w0 w:World) (m:SM) (N:Nat):Prop where
 bx:Blk w g 41 (ZN m).toArray
 bl:Below w0.heap.size w0 w
 gB:w0.heap.size≤g
 sp:Sl w0.heap.size w 61 2 m.vp m.s.pairs.length (yV m.s.pairs)
 sw:Sl w0.heap.size w 9 1 m.vw m.s.words.length (sc m.s.words)
 sd:Sl w0.heap.size w 63 4 m.vd m.s.docs.length (yI m.s.docs)
 se:Sl w0.heap.size w 9 1 m.ve m.s.exec.length (sc m.s.exec)
 we:∀ p,m.vw.ownBlock=some p→m.ve.ownBlock≠some p
 dn:∀ A n c,m.vd=.slice A n c→n≤c
 le:StLe N m.s
section
variable {g N M:Nat} {w0 w w1:World} {m:SM}
theorem BoxK.stv (h:BoxK g w0 w m N):StV N w (.agg (ZN m).toArray):=⟨m,rfl,⟨h.sp.sla,h.sw.sla,h.sd.sla,h.se.sla,h.dn⟩,h.le⟩
theorem BoxK.new (h:BoxK g w0 w m N) (b:Below w.heap.size w w1):BoxK g w0 w1 m N:=⟨h.bx.below b h.bx.lt,h.bl.trans (b.mono h.bl.size),h.gB,h.sp.new b,h.sw.new b,h.sd.new b,h.se.new b,h.we,h.dn,h.le⟩
theorem BoxK.alloc (h:BoxK g w0 w m N) (o:Obj):BoxK g w0 (w.alloc o) m N:=h.new ((Ja _ _).alloc (Jd _) o)
theorem sl_lit {B n k:Nat} {e:TypeId} {cs:Array Value} (hB:B≤w.heap.size) (hn:n≤1000) (hs:cs.size=n*k):Sl B (w.alloc (.cells cs e)) e k (.slice (some ⟨w.heap.size,0,none⟩) n n) n cs.toList:=.inl (World.ownsRow_lit w cs n hB (by unfold maxLen;omega) hs)
theorem sl_nil {B k:Nat} {e:TypeId}:Sl B w e k (.slice none 0 0) 0 []:=.inl (Kj _ _ _ _)
theorem BoxK.fin (hbx:Blk w1 g 41 (ZN m).toArray) (hb:Below w0.heap.size w0 w1) (hg:w0.heap.size≤g) {s':Ck.St} {vp' vw' vd' ve':Value} (hp:Sl w0.heap.size w1 61 2 vp' s'.pairs.length (yV s'.pairs)) (hw:Sl w0.heap.size w1 9 1 vw' s'.words.length (sc s'.words)) (hd:Sl w0.heap.size w1 63 4 vd' s'.docs.length (yI s'.docs)) (he:Sl w0.heap.size w1 9 1 ve' s'.exec.length (sc s'.exec)) (hwe:∀ p,vw'.ownBlock=some p→ve'.ownBlock≠some p) (hdn:∀ A n c,vd'=.slice A n c→n≤c) (hl:StLe M s') (j:Nat) (v:Value) (e:(ZN m).set j v=ZN ⟨s',vp',vw',vd',ve'⟩):
  BoxK g w0 (w1.setCell ⟨g,j,none⟩ v) ⟨s',vp',vw',vd',ve'⟩ M:=by
 have gr:=yK w1 ⟨g,j,none⟩ v;have b:=(Ja w0.heap.size w1).setCell (p:=⟨g,j,none⟩) hg v;exact ⟨by rw [←e,←List.setIfInBounds_toArray];exact hbx.set_ j v,hb.setCell hg v,hg,hp.kept gr b (hp.ne hbx hg (by decide)),hw.kept gr b (hw.ne hbx hg (by decide)),hd.kept gr b (hd.ne hbx hg (by decide)),he.kept gr b (he.ne hbx hg (by decide)),hwe,hdn,hl⟩
def Turned (g:Nat) (w0:World) (N:Nat) (r:Ending) (w':World):Prop:=r=.returned (.tuple #[])∧∃ m',BoxK g w0 w' m' (N+1)
theorem le_parts {s:Ck.St} (h:StLe N s):s.words.length+s.exec.length+s.pairs.length+s.docs.length≤N∧(∀ x∈s.words,x.length≤N+1)∧(∀ x∈s.exec,x.length≤N+1)∧(∀ p∈s.pairs,p.key.length≤N+1∧p.val.length≤N+1)∧(∀ d∈s.docs,d.name.length≤N+1∧d.text.length≤N+1)∧s.from_.length≤N+1∧s.mode.length≤N+1:=by
 have h2:=h.2;simp only [Ck.textsL,Km,Kn,Kl,or_false,List.mem_flatMap] at h2;refine ⟨h.1,fun x hx=>Nat.le_succ_of_le (h2 x ?_),fun x hx=>Nat.le_succ_of_le (h2 x ?_),fun p hp=>⟨Nat.le_succ_of_le (h2 _ ?_),Nat.le_succ_of_le (h2 _ ?_)⟩,fun p hp=>⟨Nat.le_succ_of_le (h2 _ ?_),Nat.le_succ_of_le (h2 _ ?_)⟩,Nat.le_succ_of_le (h2 _ ?_),Nat.le_succ_of_le (h2 _ ?_)⟩
 · simp [hx]
 · simp [hx]
 · exact .inl (.inr ⟨p,hp,.inl rfl⟩)
 · exact .inl (.inr ⟨p,hp,.inr rfl⟩)
 · exact .inr ⟨p,hp,.inl rfl⟩
 · exact .inr ⟨p,hp,.inr rfl⟩
 · simp
 · simp
end
end Go.Proofs.YtdaejggcjjdhkaaGreatDoor
