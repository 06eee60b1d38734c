/- What CheckKnown hands on, as values: steps, stages, files; laws of single operations on them. -/
import Derived.Test.YtdaejggcjjdhkaaGreatDoorCkV
import Derived.Test.YtdaejggcjjdhkaaGreatDoorCkWi
import Derived.Test.YtdaejggcjjdhkaaGreatDoorMkF
import Derived.Test.YtdaejggcjjdhkaaGreatDoorMkG
import Derived.Deep.MidRow
import Derived.ArgAppend
import Derived.Great.BuildSlice
namespace Go.Proofs.YtdaejggcjjdhkaaGreatDoor
open Go Go.RowKit
structure Env (w:World):Prop where
 t:Tabs w
 v:ErrVar w
 m:Maxl w
def StV (N:Nat) (w:World) (u:Value):Prop:=∃ m:SM,u=.agg (ZN m).toArray∧m.Ok w∧StLe N m.s
def StsV (N n:Nat) (w:World) (v:Value):Prop:=∃ l:List SM,l.length=n∧StsA w v l∧∀ m∈l,StLe N m.s
def GOk (N:Nat) (w:World) (g:GM):Prop:=StsA w g.vs g.ms∧g.base.length≤N∧g.name.length≤N∧g.ms.length≤N∧∀ m∈g.ms,StLe N m.s
def SgV (N:Nat) (w:World) (u:Value):Prop:=∃ g:GM,u=.agg (VU g).toArray∧GOk N w g
def SgsV (N n:Nat) (w:World) (v:Value):Prop:=∃ l:List GM,l.length=n∧SlA w v l.length (yH l)∧∀ g∈l,GOk N w g
def FlV (N:Nat) (w:World) (u:Value):Prop:=∃ f:FM,u=f.val∧f.Ok w∧FlLe N f
def Flat (k:Nat) (u:Value):Prop:=∃ T:Array Value,u=.agg T∧T.size=k∧T.toList.all (·.oneCell')=true
def Box (w:World) (g:Nat) (t:TypeId) (k:Nat) (u:Value):Prop:=∃ T:Array Value,u=.agg T∧T.size=k∧Blk w g t T
section
variable {N M n k:Nat} {w w':World} {u v:Value}
theorem Env.new (h:Env w) (k:Below w.heap.size w w'):Env w':=⟨h.t.new k,h.v.below k h.v.lt,h.m.grow k⟩
theorem StV.new (h:StV N w u) (k:Below w.heap.size w w'):StV N w' u:=by obtain ⟨m,e,h1,h2⟩:=h;exact ⟨m,e,h1.new k,h2⟩
theorem StV.mono (h:StV N w u) (k:N≤M):StV M w u:=by obtain ⟨m,e,h1,h2⟩:=h;exact ⟨m,e,h1,h2.mono k⟩
theorem StsV.new (h:StsV N n w u) (k:Below w.heap.size w w'):StsV N n w' u:=by obtain ⟨l,e,h1,h2⟩:=h;exact ⟨l,e,h1.new k,h2⟩
theorem GOk.new {g:GM} (h:GOk N w g) (k:Below w.heap.size w w'):GOk N w' g:=⟨h.1.new k,h.2⟩
theorem SgV.new (h:SgV N w u) (k:Below w.heap.size w w'):SgV N w' u:=by obtain ⟨g,e,h1⟩:=h;exact ⟨g,e,h1.new k⟩
theorem SgsV.new (h:SgsV N n w u) (k:Below w.heap.size w w'):SgsV N n w' u:=by obtain ⟨l,e,h1,h2⟩:=h;exact ⟨l,e,h1.new k,fun g hg=>(h2 g hg).new k⟩
theorem FlV.new (h:FlV N w u) (k:Below w.heap.size w w'):FlV N w' u:=by obtain ⟨f,e,h1,h2⟩:=h;exact ⟨f,e,h1.new k,h2⟩
theorem Box.new {g:Nat} {t:TypeId} (h:Box w g t k u) {B:Nat} (b:Below B w w') (hg:g<B):Box w' g t k u:=by obtain ⟨T,e,h1,h2⟩:=h;exact ⟨T,e,h1,h2.below b hg⟩
theorem Box.lt {g:Nat} {t:TypeId} (h:Box w g t k u):g<w.heap.size:=by obtain ⟨T,e,h1,h2⟩:=h;exact h2.lt
theorem below_new {w w':World} {x:Obj} (h:Below (w.alloc x).heap.size (w.alloc x) w'):Below w.heap.size w w':=((Ja w.heap.size w).alloc (Jd _) x).trans (h.mono (by rw [Jb];omega))
theorem StV.flat (h:StV N w u):Flat 10 u:=by obtain ⟨m,rfl,h1,-⟩:=h;exact ⟨_,rfl,rfl,List.all_eq_true.2 fun x hx=>Zk h1 x hx⟩
theorem sgs_one {l:List GM} (h2:∀ g∈l,GOk N w g):∀ x∈yH l,x.oneCell'=true:=fun x hx=>by
 obtain ⟨g,hg,hx⟩:=List.mem_flatMap.1 hx;simp only [VU,Kn,Kl,or_false] at hx;rcases hx with rfl | rfl | rfl | rfl
 all_goals first | rfl | exact ZA (h2 g hg).1.1
theorem SgV.flat (h:SgV N w u):Flat 4 u:=by obtain ⟨g,rfl,h1⟩:=h;exact ⟨_,rfl,rfl,List.all_eq_true.2 fun x hx=>sgs_one (l:=[g]) (fun y hy=>by rw [Jv] at hy;exact hy ▸ h1) x (by simpa [yH] using hx)⟩
theorem FlV.flat (h:FlV N w u):Flat 3 u:=by
 obtain ⟨f,rfl,h1,-⟩:=h;refine ⟨_,rfl,rfl,List.all_eq_true.2 fun x hx=>?_⟩;simp only [Kn,Kl,or_false] at hx;rcases hx with rfl | rfl | rfl
 · rfl
 · exact ZA h1.a.1
 · exact ZA h1.g.1
theorem StV.mk (op line:Int) (fr mo:List UInt8) (fo ba:Bool) {vp vw vd ve:Value} (ps:List Ck.Pr) (ws:List (List UInt8)) (ds:List Lx.Dc) (es:List (List UInt8)) (hp:SlA w vp ps.length (yV ps)) (hw:SlA w vw ws.length (sc ws)) (hd:SlA w vd ds.length (yI ds)) (he:SlA w ve es.length (sc es)) (hn:∀ A n c,vd=.slice A n c→n≤c)
  (hl:StLe N ⟨op,line,fr,mo,fo,ps,ba,ws,ds,es⟩):StV N w (.agg #[.int .i64 op,.int .i64 line,.string (bs fr),.string (bs mo),.bool fo,vp,.bool ba,vw,vd,ve]):=
 ⟨⟨⟨op,line,fr,mo,fo,ps,ba,ws,ds,es⟩,vp,vw,vd,ve⟩,rfl,⟨hp,hw,hd,he,hn⟩,hl⟩
theorem nil_dn:∀ A n c,Value.slice none 0 0=.slice A n c→n≤c:=fun A n c h=>by injection h with _ h1 h2;omega
theorem StsV.nil (w:World):StsV N 0 w (.slice none 0 0):=⟨[],rfl,⟨SlA.none w,fun m hm=>by cases hm⟩,fun m hm=>(by cases hm)⟩
theorem SgsV.nil (w:World):SgsV N 0 w (.slice none 0 0):=⟨[],rfl,SlA.none w,fun m hm=>(by cases hm)⟩
theorem SgV.mk (line:Int) (b nm:List UInt8) {vs:Value} (h:StsV N n w vs) (hb:b.length≤N) (hm:nm.length≤N) (hn:n≤N):SgV N w (.agg #[.int .i64 line,.string (bs b),.string (bs nm),vs]):=by obtain ⟨l,rfl,h1,h2⟩:=h;exact ⟨⟨line,b,nm,vs,l⟩,rfl,h1,hb,hm,hn,h2⟩
theorem sum_bound:∀ (l:List GM),(∀ g∈l,GOk N w g)→(l.map fun g=>g.ms.length).sum≤l.length*N
 | [],_=>by simp
 | g::l,h=>by have h1:=sum_bound l (fun x hx=>h x (Kg _ hx));have h2:=(h g Kh).2.2.2.1;rw [List.map_cons,List.sum_cons,Ji,Nat.succ_mul];omega
theorem FlV.mk (e:UInt8) {va vg:Value} {a g:Nat} (ha:StsV N a w va) (hg:SgsV N g w vg) (h:N+g+a+g*N≤M):FlV M w (.agg #[.int .u8 (e.toNat:Int),va,vg]):=by
 obtain ⟨l,rfl,h1,h2⟩:=ha;obtain ⟨q,rfl,h3,h4⟩:=hg;have hs:=sum_bound q h4;refine ⟨⟨e,va,l,vg,q⟩,rfl,⟨h1,h3,fun g hg=>(h4 g hg).1⟩,fun m hm=>(h2 m hm).mono (by omega),fun g hg=>⟨?_,?_,fun m hm=>((h4 g hg).2.2.2.2 m hm).mono (by omega)⟩,?_⟩
 · have:=(h4 g hg).2.1;omega
 · have:=(h4 g hg).2.2.1;omega
 · show q.length+(l.length+(q.map fun g=>g.ms.length).sum)≤M;omega
theorem StsV.form (h:StsV N n w v) (h0:0<n):∃ g o c,v=.slice (some ⟨g,o,none⟩) n c:=by
 obtain ⟨l,rfl,h1,h2⟩:=h;rcases h1.1 with ⟨_,h3,_⟩ | ⟨g,o,c,e,_⟩
 · omega
 · exact ⟨g,o,c,e⟩
theorem StsV.el {g o c i:Nat} (h:StsV N n w (.slice (some ⟨g,o,none⟩) n c)) (hi:i<n):∃ T:List Value,w.rangeAt g (o+i*10) T∧T.length=10∧StV N w (.agg T.toArray):=by
 obtain ⟨l,rfl,h1,h2⟩:=h;obtain ⟨g',o',c',e,h3⟩:=j6 h1.1 hi;injection e with e1 _ _;injection e1 with e1;injection e1 with e1 e2 _;subst e1 e2;refine ⟨ZN l[i],fun j x hx=>?_,rfl,l[i],rfl,h1.2 _ (Jl hi),h2 _ (Jl hi)⟩;have hj:j<10:=by have:=(List.getElem?_eq_some_iff.1 hx).1;exact this
 exact (h3 j hj).trans hx
end
section
variable {P:Program} {o:Oper} {a:Act} {W:World} {K:Act→World→Prop} {Q:Exit→Act→World→Prop}
theorem Blk.but {w w':World} {p g:Nat} {t:TypeId} {cs:Array Value} (h:Blk w p t cs) (hg:w.grownBy w' (some g)) (hne:p≠g):Blk w' p t cs:=(hg.block p h.lt (fun e=>by injection e with e;exact hne e)).trans h
theorem below_but {B g:Nat} {w0 w w':World} (h:Below B w0 w) (hg:w.grownBy w' (some g)) (hB:B≤w.heap.size) (hb:B≤g):Below B w0 w':=h.trans ((Fx.of_grown hg).to_below hB (fun b e=>by injection e with e;omega))
theorem wp_rows {t e:TypeId} {n k:Nat} {parts:Array (Nat × Operand)} (ho:o.op=.buildSlice t n parts) (hu:P.underlying t=some (.slice e)) (hi:(P.info? e).map (fun i=>(i.zero.isSome,i.size))=some (true,k)) (vs:List Value) (hn:vs.length=n) (hpos:0<n*k) (hsmall:n*k≤2 ^ 24)
  (hev:(parts.map fun (i,x)=>(i,a.eval x)).toList=(vs.zipIdx 0).map fun x=>(x.2,x.1)) (h1:∀ v∈vs,v.cells.size=k)
  (h:K (a.put o.dst (.slice (some ⟨W.heap.size,0,none⟩) n n)) (W.alloc (.cells (vs.flatMap fun v=>v.cells.toList).toArray e))):o.wp P a W K Q:=by
 subst hn;cases hie:P.info? e with
 | none=>simp [hie] at hi
 | some ie =>simp only [hie,Option.map_some,Option.some.injEq,Prod.mk.injEq] at hi;obtain ⟨hz,hsz⟩:=hi;obtain ⟨z,hzz⟩:=Option.isSome_iff_exists.1 hz;refine wp_buildSlice t e vs.length parts ho _ ie z hu hie hzz (by rw [hsz];omega) (by rw [hsz];omega) ?_ h;rw [hev,hsz];exact Great.fill_whole (Nat.pos_of_mul_pos_left hpos) vs ((Array.range (vs.length*k)).map (z.cells[· % z.cells.size]!)) h1 (by simp)
theorem wp_box {x y:Operand} {t:TypeId} {k:Nat} (g:Nat) (T:Vq P t k) {Z:Array Value} (hg:Blk W g t Z) {u:Value} (hf:Flat k u)
  (h:∀ w',Box w' g t k u→W.grownBy w' (some g)→w'.heap.size=W.heap.size→K (a.put o.dst undef) w') (ho:o.op=.store t x y:=by rfl) (hZ:Z.size=k:=by rfl) (hx:a.eval x=.pointer (some ⟨g,0,none⟩):=by rfl) (hy:a.eval y=u:=by rfl):o.wp P a W K Q:=by
 obtain ⟨cs,rfl,h1,h2⟩:=hf;exact wp_store_row t x y ho g cs hx hy _ Z hg (by rw [T.size,h1]) (by rw [hZ,h1]) (by rw [←Array.all_toList];exact h2) (h _ ⟨cs,rfl,h1,setRow_heap W g _ _ _ _ hg⟩ (Ye _ _ _) (yB _ _ _))
theorem wp_box0 {x y:Operand} {t:TypeId} {k:Nat} (T:Vq P t k) {Z:Array Value} {u:Value} (hf:Flat k u)
  (h:∀ w',Box w' W.heap.size t k u→Below W.heap.size W w'→w'.heap.size=W.heap.size+1→K (a.put o.dst undef) w') (ho:o.op=.store t x y:=by rfl) (hZ:Z.size=k:=by rfl) (hx:a.eval x=.pointer (some ⟨W.heap.size,0,none⟩):=by rfl) (hy:a.eval y=u:=by rfl):o.wp P a (W.alloc (.cells Z t)) K Q:=
 wp_box (x:=x) (y:=y) (ho:=ho) (hZ:=hZ) (hx:=hx) (hy:=hy) W.heap.size T (Blk.new _ _ _) hf fun w' a1 a2 a3=>h w' a1 (below_but ((Ja W.heap.size W).alloc (Jd _) _) a2 (by rw [Jb];omega) (Jd _)) (by rw [a3,Jb])
theorem wp_unbox {x:Operand} {t:TypeId} {k g:Nat} (T:Vq P t k) {u:Value} (hb:Box W g t k u)
  (h:K (a.put o.dst u) W) (ho:o.op=.load t x:=by rfl) (hx:a.eval x=.pointer (some ⟨g,0,none⟩):=by rfl):o.wp P a W K Q:=by
 obtain ⟨cs,rfl,h1,h2⟩:=hb;obtain ⟨fs,hu⟩:=T.agg;exact wp_load_row t x ho g hx t cs (0,0) _ h2 hu rfl (by rw [T.size,h1]) h
theorem wp_mid {x:Operand} {t:TypeId} {k g q:Nat} (T:Vq P t k) {L:List Value} (hL:W.rangeAt g q L) (hk:L.length=k)
  (h:K (a.put o.dst (.agg L.toArray)) W) (ho:o.op=.load t x:=by rfl) (hx:a.eval x=.pointer (some ⟨g,q,none⟩):=by rfl):o.wp P a W K Q:=by
 obtain ⟨fs,hu⟩:=T.agg;exact wp_load_mid t x ho g q hx L _ hL hu rfl (by rw [T.size,hk]) h
end
section
variable {w:World} {g i k N:Nat} {t:TypeId} {T:Array Value} {u v:Value}
theorem Box.cell (h:Box w g t k u) (hi:i<k):∃ y,w.cell? ⟨g,i,none⟩=some y:=by obtain ⟨T,e,h1,h2⟩:=h;exact ⟨T[i],(h2.cell i).trans (Array.getElem?_eq_getElem (by omega))⟩
theorem Box.frozen (h:Box w g t k u) (i:Nat):w.frozen? ⟨g,i,none⟩=false:=by obtain ⟨T,e,h1,h2⟩:=h;exact h2.frozen i
theorem Box.setF (h:Box w g t k (.agg T)) (i:Nat) (v:Value):Box (w.setCell ⟨g,i,none⟩ v) g t k (.agg (T.setIfInBounds i v)):=by obtain ⟨T',e,h1,h2⟩:=h;injection e with e;subst e;exact ⟨_,rfl,by rw [Array.size_setIfInBounds];exact h1,h2.set_ i v⟩
theorem smL_set (m:SM) (i:Nat) (v:Value):(ZN m).toArray.setIfInBounds i v=((ZN m).set i v).toArray:=List.setIfInBounds_toArray ..
theorem stv_set {s':Ck.St} {m:SM} {vp vw vd ve:Value} (hm:(⟨s',vp,vw,vd,ve⟩:SM).Ok w) (hl:StLe N s') (e:(ZN m).set i v=ZN ⟨s',vp,vw,vd,ve⟩):StV N w (.agg ((ZN m).toArray.setIfInBounds i v)):=
 ⟨_,by rw [smL_set,e],hm,hl⟩
theorem le_from {s:Ck.St} {x:List UInt8} (h:StLe N s) (hx:x.length≤N):StLe N { s with from_:=x }:=⟨h.1,fun t ht=>by
 have h2:=h.2;simp only [Ck.textsL,Km,Kn,Kl,or_false] at ht h2;rcases ht with (((((rfl | ht) | ht) | ht) | ht) | ht)
 · exact hx
 all_goals exact h2 t (by simp [ht])⟩
theorem le_mode {s:Ck.St} {x:List UInt8} (h:StLe N s) (hx:x.length≤N):StLe N { s with mode:=x }:=⟨h.1,fun t ht=>by
 have h2:=h.2;simp only [Ck.textsL,Km,Kn,Kl,or_false] at ht h2;rcases ht with (((((ht | rfl) | ht) | ht) | ht) | ht)
 · exact h2 t (by simp [ht])
 · exact hx
 all_goals exact h2 t (by simp [ht])⟩
theorem StV.from_ (h:StV N w (.agg T)) (x:List UInt8) (hx:x.length≤N):StV N w (.agg (T.setIfInBounds 2 (.string (bs x)))):=by obtain ⟨m,e,h1,h2⟩:=h;injection e with e;subst e;exact stv_set (s':={ m.s with from_:=x }) ⟨h1.cp,h1.cw,h1.cd,h1.ce,h1.dn⟩ (le_from h2 hx) rfl
theorem StV.mode_ (h:StV N w (.agg T)) (x:List UInt8) (hx:x.length≤N):StV N w (.agg (T.setIfInBounds 3 (.string (bs x)))):=by obtain ⟨m,e,h1,h2⟩:=h;injection e with e;subst e;exact stv_set (s':={ m.s with mode:=x }) ⟨h1.cp,h1.cw,h1.cd,h1.ce,h1.dn⟩ (le_mode h2 hx) rfl
theorem StV.force_ (h:StV N w (.agg T)) (b:Bool):StV N w (.agg (T.setIfInBounds 4 (.bool b))):=by obtain ⟨m,e,h1,h2⟩:=h;injection e with e;subst e;exact stv_set (s':={ m.s with force:=b }) ⟨h1.cp,h1.cw,h1.cd,h1.ce,h1.dn⟩ h2 rfl
theorem StV.bare_ (h:StV N w (.agg T)) (b:Bool):StV N w (.agg (T.setIfInBounds 6 (.bool b))):=by obtain ⟨m,e,h1,h2⟩:=h;injection e with e;subst e;exact stv_set (s':={ m.s with bare:=b }) ⟨h1.cp,h1.cw,h1.cd,h1.ce,h1.dn⟩ h2 rfl
end
def Stab (p:World→Value→Prop):Prop:=∀ u w w',Below w.heap.size w w'→p w u→p w' u
def VLs (l:List (World→Value→Prop)) (j:Nat) (u:Value) (w:World):Prop:=match l[j]? with | some p=>p w u | none=>True
theorem VLs.new {l:List (World→Value→Prop)} (hl:∀ p∈l,Stab p) {w w':World} (k:Below w.heap.size w w') (j:Nat) (u:Value) (h:VLs l j u w):VLs l j u w':=by
 unfold VLs at h ⊢
 split
 · rename_i p hp;rw [hp] at h;exact hl p (List.mem_of_getElem? hp) u w w' k h
 · trivial
theorem fc {α:Type} {p:α→Prop} {a:α} {l:List α} (h:p a) (t:∀ u∈l,p u):∀ u∈a::l,p u:=List.forall_mem_cons.2 ⟨h,t⟩
theorem fn {α:Type} {p:α→Prop}:∀ u∈([]:List α),p u:=fun _ h=>by cases h
theorem stab_eq (v:Value):Stab fun _ u=>u=v:=fun _ _ _ _ h=>h
theorem stab_st (N:Nat):Stab (StV N):=fun _ _ _ k h=>h.new k
theorem stab_sts (N n:Nat):Stab (StsV N n):=fun _ _ _ k h=>h.new k
theorem stab_sg (N:Nat):Stab (SgV N):=fun _ _ _ k h=>h.new k
theorem stab_sgs (N n:Nat):Stab (SgsV N n):=fun _ _ _ k h=>h.new k
theorem stab_fl (N:Nat):Stab (FlV N):=fun _ _ _ k h=>h.new k
theorem stab_sl (n:Nat) (xs:List Value):Stab fun w u=>SlA w u n xs:=fun _ _ _ k h=>h.new k
theorem wantedp {o:Oper} {ys:Nat→Option Bool} {A B:Prop} (h:A) (hg:o.guard=none:=by rfl):if Region.wanted o ys=true then A else B:=by simp only [Region.wanted,hg,if_true];exact h
theorem wpList_want {P:Program} {ops:Array Oper} {rest:List Oper} {o:Oper} {a:Act} {w:World} {Q:Exit→Act→World→Prop} (h:∀ K:Act→World→Prop,(∀ a w,wpList P ops Q rest a w→K a w)→o.wp P a w K Q) (hw:Region.wanted o (yielded ops a.tmps)=true:=by rfl):wpList P ops Q (o::rest) a w:=
 wpList_step fun K hK=>by rw [if_pos hw];exact h K hK
theorem Steps.one {P:Program} {ops:Array Oper} {Q:Exit→Act→World→Prop} {F:(Nat→Value)→Act} {w0:World} {l:List (World→Value→Prop)} {i k:Nat} {o:Oper} {os:List Oper} (n:List Nat) (hk:i+1=k) (hl:∀ p∈l,Stab p) (hn:(n.all fun j=>(yW o).contains j)=true)
  (h:∀ (xs:Nat→Value) (w:World),Below w0.heap.size w0 w→AllV (VLs l) xs w n→
  ∀ K:Act→World→Prop,Shut (∀ v w',Below w.heap.size w w'→VLs l i v w'→K ((F xs).put o.dst v) w')→
   if Region.wanted o (yielded ops (F xs).tmps)=true then Oper.wp P o (F xs) w K Q else K ((F xs).put o.dst undef) w) (hs:Steps P ops Q F (fun w=>Below w0.heap.size w0 w) (VLs l) k os):Steps P ops Q F (fun w=>Below w0.heap.size w0 w) (VLs l) i (o::os):=
 Steps.cons hk hn (fun xs w hS hV K hK=>h xs w hS hV K fun v w' hb hv=>hK.out v w' (hS.trans (hb.mono hS.size)) hv (VLs.new hl hb)) hs
theorem Steps.o {P:Program} {ops:Array Oper} {Q:Exit→Act→World→Prop} {F:(Nat→Value)→Act} {w0:World} {l:List (World→Value→Prop)} {i k:Nat} {o:Oper} {os:List Oper} (n:List Nat) (hl:∀ p∈l,Stab p) (h:∀ (xs:Nat→Value) (w:World),Below w0.heap.size w0 w→AllV (VLs l) xs w n→∀ K:Act→World→Prop,Shut (∀ v w',Below w.heap.size w w'→VLs l i v w'→K ((F xs).put o.dst v) w')→if Region.wanted o (yielded ops (F xs).tmps)=true then Oper.wp P o (F xs) w K Q else K ((F xs).put o.dst undef) w) (hs:Steps P ops Q F (fun w=>Below w0.heap.size w0 w) (VLs l) k os) (hk:i+1=k:=by rfl) (hn:(n.all fun j=>(yW o).contains j)=true:=by kernel_rfl):Steps P ops Q F (fun w=>Below w0.heap.size w0 w) (VLs l) i (o::os):=Steps.one n hk hl hn h hs
section
variable {o:Oper} {a:Act} {W:World} {K:Act→World→Prop} {Q:Exit→Act→World→Prop} {N n:Nat}
theorem stvs {w:World}:∀ (us:List Value),(∀ u∈us,StV N w u)→∃ l:List SM,l.length=us.length∧(us.flatMap fun v=>v.cells.toList)=yv l∧(∀ m∈l,m.Ok w)∧∀ m∈l,StLe N m.s
 | [],_=>⟨[],rfl,rfl,fun m hm=>(by cases hm),fun m hm=>(by cases hm)⟩
 | u::us,h=>by
  obtain ⟨l,h1,h2,h3,h4⟩:=stvs us (fun x hx=>h x (Kg _ hx));obtain ⟨m,rfl,h5,h6⟩:=h u Kh;refine ⟨m::l,by simp [h1],by rw [Ke,h2];rfl,fun x hx=>?_,fun x hx=>?_⟩
  · rcases Kn.1 hx with rfl | hx
    · exact h5
    · exact h3 x hx
  · rcases Kn.1 hx with rfl | hx
    · exact h6
    · exact h4 x hx
theorem sgvs {w:World}:∀ (us:List Value),(∀ u∈us,SgV N w u)→∃ l:List GM,l.length=us.length∧(us.flatMap fun v=>v.cells.toList)=yH l∧∀ m∈l,GOk N w m
 | [],_=>⟨[],rfl,rfl,fun m hm=>(by cases hm)⟩
 | u::us,h=>by
  obtain ⟨l,h1,h2,h3⟩:=sgvs us (fun x hx=>h x (Kg _ hx));obtain ⟨m,rfl,h5⟩:=h u Kh;refine ⟨m::l,by simp [h1],by rw [Ke,h2];rfl,fun x hx=>?_⟩;rcases Kn.1 hx with rfl | hx
  · exact h5
  · exact h3 x hx
theorem wp_sts {parts:Array (Nat × Operand)} (us:List Value) (hus:∀ u∈us,StV N W u)
  (h:∀ w',StsV N n w' (.slice (some ⟨W.heap.size,0,none⟩) n n)→w'.ownsRow W.heap.size 41 10 (.slice (some ⟨W.heap.size,0,none⟩) n n) n (us.flatMap fun v=>v.cells.toList)→Below W.heap.size W w'→w'.heap.size=W.heap.size+1→K (a.put o.dst (.slice (some ⟨W.heap.size,0,none⟩) n n)) w') (ho:o.op=.buildSlice 22 n parts:=by rfl) (hn:us.length=n:=by rfl) (hpos:0<n:=by omega) (hsm:n≤1000:=by omega) (hev:(parts.map fun (i,x)=>(i,a.eval x)).toList=(us.zipIdx 0).map fun x=>(x.2,x.1):=by kernel_rfl):o.wp Tryz.prog a W K Q:=by
 refine wp_rows (k:=10) ho Tryz.underlying22 (by kernel_rfl) us hn (by omega) (by omega) hev (fun v hv=>?_) ?_
 · obtain ⟨T,rfl,h1,-⟩:=(hus v hv).flat;exact h1
 · obtain ⟨l,h1,h2,h3,h4⟩:=stvs us hus;have hB:=(Ja W.heap.size W).alloc (Jd _) (.cells (us.flatMap fun v=>v.cells.toList).toArray 41);have hK:=Blk.new W 41 (us.flatMap fun v=>v.cells.toList).toArray;have hl:l.length=n:=h1.trans hn;refine h _ ⟨l,hl,⟨?_,fun m hm=>(h3 m hm).new hB⟩,h4⟩ ⟨?_,.inr ⟨W.heap.size,n,_,rfl,Jd _,hK,Jd _,by unfold maxLen;omega,?_,?_⟩⟩ hB (by rw [Jb])
   · rw [hl];exact SlA.blk (cs:=yv l) (by rw [←h2];exact hK)
   · rw [h2,ZO,hl]
   · rw [h2,List.size_toArray,ZO,hl]
   · rw [h2,List.take_of_length_le (by rw [ZO,hl];omega)]
theorem sla_at {w:World} {g o n c k:Nat} {xs:List Value} (h:SlA w (.slice (some ⟨g,o,none⟩) n c) k xs):∀ (j:Nat) (u:Value),xs[j]?=some u→w.cell? ((⟨g,o,none⟩:Addr).add j)=some u:=fun j u hu=>by obtain ⟨g',o',c',e,hc⟩:=h.get hu;injection e with e _ _;injection e with e;injection e with ea eb _;subst ea eb;rw [Xh];exact hc
theorem wp_appF {s x:Operand} {g q n m:Nat} {v:Value} (h1:StsV N n W (.slice (some ⟨g,q,none⟩) n n)) (h2:StsV N m W v) (hm:0<m) (hn:n+m≤1000)
  (h:∀ v' w',StsV N (n+m) w' v'→Below W.heap.size W w'→K (a.put o.dst v') w') (ho:o.op=.call { callee:=.builtin .append,args:=#[s,x],argTypes:=#[22,22] }:=by rfl) (hs:a.eval s=.slice (some ⟨g,q,none⟩) n n:=by rfl) (hx:a.eval x=v:=by rfl):o.wp Tryz.prog a W K Q:=by
 obtain ⟨i,hi,hz,hsz,hby⟩:=info_parts stpKe.hi;obtain ⟨g2,q2,c2,rfl⟩:=h2.form hm;obtain ⟨l1,e1,a1,b1⟩:=h1;obtain ⟨l2,e2,a2,b2⟩:=h2;have r1:=sla_at a1.1;have r2:=sla_at a2.1;obtain ⟨v',w',hr,hown,hg⟩:=run_append_arg_grows (P:=Tryz.prog) W 22 o.type 41 i _ 10 160 stpKe.ht hi hz hsz hby stpKe.hz stpKe.h0 ⟨g,q,none⟩ n n (yv l1) (by rw [ZO,e1]) r1 ⟨g2,q2,none⟩ m c2 (yv l2) (by rw [ZO,e2]) r2 (by omega) (by unfold maxLen;omega) (by omega);unfold Oper.wp execOp;simp only [ho,resolve,invoke,builtin,Sem.run_bind,Sem.run_pure,Result.andThen_ok,List.map_toArray,List.map_cons,List.map_nil,hs,hx,hr];have hb:Below W.heap.size W w':=(Fx.of_grown hg).to_below (Jd _) (fun b e=>by cases e);refine h _ _ ⟨l1++l2,by rw [Jf,e1,e2],⟨?_,fun y hy=>?_⟩,fun y hy=>?_⟩ hb
 · rw [Jf,e1,e2,yv,Kf];exact SlA.own hown
 · rcases Km.1 hy with hy | hy
   · exact (a1.2 y hy).new hb
   · exact (a2.2 y hy).new hb
 · rcases Km.1 hy with hy | hy
   · exact b1 y hy
   · exact b2 y hy
theorem wp_sgs {parts:Array (Nat × Operand)} (us:List Value) (hus:∀ u∈us,SgV N W u)
  (h:∀ w',SgsV N n w' (.slice (some ⟨W.heap.size,0,none⟩) n n)→Below W.heap.size W w'→w'.heap.size=W.heap.size+1→K (a.put o.dst (.slice (some ⟨W.heap.size,0,none⟩) n n)) w') (ho:o.op=.buildSlice 23 n parts:=by rfl) (hn:us.length=n:=by rfl) (hpos:0<n:=by omega) (hsm:n≤1000:=by omega) (hev:(parts.map fun (i,x)=>(i,a.eval x)).toList=(us.zipIdx 0).map fun x=>(x.2,x.1):=by kernel_rfl):o.wp Tryz.prog a W K Q:=by
 refine wp_rows (k:=4) ho Tryz.underlying23 (by kernel_rfl) us hn (by omega) (by omega) hev (fun v hv=>?_) ?_
 · obtain ⟨T,rfl,h1,-⟩:=(hus v hv).flat;exact h1
 · obtain ⟨l,h1,h2,h3⟩:=sgvs us hus;have hB:=(Ja W.heap.size W).alloc (Jd _) (.cells (us.flatMap fun v=>v.cells.toList).toArray 53);have hK:=Blk.new W 53 (us.flatMap fun v=>v.cells.toList).toArray;have hl:l.length=n:=h1.trans hn;refine h _ ⟨l,hl,?_,fun m hm=>(h3 m hm).new hB⟩ hB (by rw [Jb]);rw [hl];exact SlA.blk (cs:=yH l) (by rw [←h2];exact hK)
end
end Go.Proofs.YtdaejggcjjdhkaaGreatDoor
