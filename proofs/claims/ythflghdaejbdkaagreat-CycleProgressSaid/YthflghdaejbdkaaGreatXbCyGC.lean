/- Lemmas of this claim. -/
import Derived.Deep.DeepFit
import Derived.Test.YthflghdaejbdkaaGreatXbTbGC
import Derived.Deep.Upon
import Derived.Deep.RegionLaw
import Derived.Test.YthflghdaejbdkaaGreatXbCyStar
namespace Go.Proofs.YthflghdaejbdkaaGreat
open _root_.Go.Proofs.Tryz (prog)
open Go.RowKit Go.Maps
set_option maxHeartbeats 3200000
set_option maxRecDepth 100000
set_option linter.unusedVariables false
section
variable {w w':World}
def aPx (b o:Nat) (w:World):Prop:=(∃ v,w.cell? ⟨b,o,none⟩=some v)/\w.frozen? ⟨b,o,none⟩=false
theorem aFH {ops:Array Oper} {o:Oper} {ac:Act} {wl:World} {K:Act->World->Prop} {Q:Exit->Act->World->Prop} {E:Prop} (h5:o.guard=none) (s x:Operand)
  (ho:o.op=.call { callee:=.builtin .append,args:=#[s,x],argTypes:=#[23,23] }) (w0:World) (hO:Only [] w0 wl)
  (v:Value) (l:List Int) (hs:ac.eval s=v) (d:aN wl w0.heap.size v l) (ad:Addr) (m c:Nat) (z:List Int) (hx:ac.eval x=.slice (some ad) m c) (hl:z.length=m) (h0:∀ j u,z[j]?=some u->wl.cell? (ad.add j)=some (.int .i64 u)) (hm:0<m) (n:Nat) (hn:l.length+m=n) (hb:n<=1000000)
  (h:∀ g cap w',aN w' w0.heap.size (.slice (some ⟨g,0,none⟩) n cap) (l ++ z)->Only [] w0 w'->(∀ B u,v.ownBlock≠some B->wl.cell? ⟨B,0,none⟩=some u->w'.cell? ⟨B,0,none⟩=some u)->K (ac.put o.dst (.slice (some ⟨g,0,none⟩) n cap)) w') :
  if Region.wanted o (yielded ops ac.tmps)=true then Oper.wp prog o ac wl K Q else E:=by
 obtain ⟨i0,h6,h7,h8,h9⟩:=info_parts jO;subst hn;refine step_append_lies _ h5 s x 23 ho w0.heap.size 3 i0 _ 1 8 Tryz.underlying23 h6 h7 h8 h9 rfl (by omega) v l.length (l.map (.int .i64)) hs d ad m c (z.map (.int .i64)) hx (by simp [hl]) (fun j u hu=>?_) (fun u hu=>?_) hm (by simp only [maxLen];omega) (by omega) hO.size wl.heap.size rfl ?_
 ·simp only [List.getElem?_map,Option.map_eq_some_iff] at hu;obtain ⟨y,hy,rfl⟩:=hu;exact h0 j y hy
 ·simp only [List.mem_map] at hu;obtain ⟨y,_,rfl⟩:=hu;rfl
 intro g cap w' h1 h2 h3 h4;refine h g cap w' ?_ (hO.grown h2 (fun k hk=>.inr (d.own k hk).1)) (fun B u hB hc=>?_)
 ·unfold aN;rw [List.length_append,hl,List.map_append];exact h1
 exact (h2.cell_far ⟨B,0,none⟩ (World.block_lt_of_cell? wl _ hc) (fun e=>hB e.symm)).trans hc
theorem aOE (w:World) (o:Obj):Only [] w (w.alloc o).drew:=((Only.refl [] w).alloc o).drew
theorem aOD (w:World) (o o':Obj):Only [] w ((w.alloc o).alloc o').drew:=(((Only.refl [] w).alloc o).alloc o').drew
theorem Only.cell0 {w0 wl:World} (h:Only [] w0 wl) {a:Addr} {v:Value} (y:w0.cell? a=some v):wl.cell? a=some v:=h.cell y (by simp)
theorem Only.frozen0 {w0 wl:World} (h:Only [] w0 wl) {a:Addr} {v:Value} (y:w0.cell? a=some v) (z:w0.frozen? a=false):wl.frozen? a=false:=by
 rw [World.frozen?_of_block (h.block a.block (World.block_lt_of_cell? w0 _ y) (by simp))];exact z
theorem aQL {w0 wl:World} (h:Only [] w0 wl) {b o:Nat} {v:Value} (y:w0.cell? ⟨b,o,none⟩=some v) (z:w0.frozen? ⟨b,o,none⟩=false):aPx b o wl:=⟨⟨v,h.cell0 y⟩,h.frozen0 y z⟩
theorem aHg (w:World) (y z:TypeId) (a:Int):((w.alloc (.cells #[] y)).alloc (.cells #[.int .i64 a] z)).drew.cell? ⟨w.heap.size+1,0,none⟩=some (.int .i64 a):=by
 have:=(Row.new (w.alloc (.cells #[] y)) z [.int .i64 a]).cell 0 rfl;rw [World.size_alloc] at this;exact this
theorem aJD (w:World) (y z:TypeId) (a:Int):((w.alloc (.cells #[.int .i64 a] z)).alloc (.cells #[] y)).drew.cell? ⟨w.heap.size,0,none⟩=some (.int .i64 a):=
 ((Row.new w z [.int .i64 a]).alloc (.cells #[] y)).cell 0 rfl
theorem aMo (b:Nat):(Value.slice (some ⟨b,0,none⟩) 0 0).ownBlock≠some (b+1):=by simp [Value.ownBlock]
theorem aMp (b:Nat):(Value.slice (some ⟨b+1,0,none⟩) 0 0).ownBlock≠some b:=by simp [Value.ownBlock]
theorem aHq (w:World) (y:TypeId) (C:Array Value):aN (((w.alloc (.cells #[] 3)).alloc (.cells C y)).drew) w.heap.size (.slice (some ⟨w.heap.size,0,none⟩) 0 0) []:=(aN.made w).alloc _
theorem aHr (w:World):aN ((w.alloc (.cells #[] 3)).drew) w.heap.size (.slice (some ⟨w.heap.size,0,none⟩) 0 0) []:=aN.made w
theorem aET (w:World) (y:TypeId) (C:Array Value):aN (((w.alloc (.cells C y)).alloc (.cells #[] 3)).drew) w.heap.size (.slice (some ⟨w.heap.size+1,0,none⟩) 0 0) []:=by
 have:=(aN.made (w.alloc (.cells C y))).base (b:=w.heap.size) (by simp);rw [World.size_alloc] at this;exact this
theorem yO {w:World} {b:Nat} {a:Int} (h:w.cell? ⟨b,0,none⟩=some (.int .i64 a)):∀ j u,[a][j]?=some u->w.cell? ((⟨b,0,none⟩:Addr).add j)=some (.int .i64 u):=by
 intro j u y
 cases j with
 | zero=>simp at y;subst y;rw [dN];exact h
 | succ j=>simp at y
theorem aEH (w:World) (T:TypeId) (a:Int):∀ j u,[a][j]?=some u->(w.alloc (.cells #[.int .i64 a] T)).cell? ((⟨w.heap.size,0,none⟩:Addr).add j)=some (.int .i64 u):=
 yO ((Row.new w T [.int .i64 a]).cell 0 rfl)
theorem aIW {ops:Array Oper} {o:Oper} {ac:Act} {wl:World} {K:Act->World->Prop} {Q:Exit->Act->World->Prop} {E:Prop} (h0:o.guard=none) (s x:Operand)
  (ho:o.op=.call { callee:=.builtin .append,args:=#[s,x],argTypes:=#[23,23] }) (b:Option Addr) (n c:Nat) (hn:n<=c) (d:Option Addr) (y:Nat) (hs:ac.eval s=.slice b n c) (hx:ac.eval x=.slice d 0 y) (h:K (ac.put o.dst (.slice b n c)) wl) :
  if Region.wanted o (yielded ops ac.tmps)=true then Oper.wp prog o ac wl K Q else E:=by
 have hw:Region.wanted o (yielded ops ac.tmps)=true:=by simp [Region.wanted,h0]
 rw [if_pos hw];obtain ⟨i0,h1,h2,h3,h4⟩:=info_parts jO;have z:Src prog i0.size 23 (.slice d 0 y) 0 [] wl:=by
  cases d with
  | none=>exact Src.ofNil wl Tryz.underlying23 y
  | some a=>exact Src.ofSlice wl Tryz.underlying23 a 0 y [] (by simp) (fun j u e=>by simp at e) (fun u e=>by simp at e)
 have hr:=run_append_nothing (P:=prog) wl 23 23 o.type 3 i0 Tryz.underlying23 h1 b n c hn (.slice d 0 y) z;unfold Oper.wp execOp;simp only [ho,resolve,invoke,builtin,Sem.run_bind,Sem.run_pure,Result.andThen_ok,List.map_toArray,List.map_cons,List.map_nil,hs,hx,hr];exact h
theorem aOn {ops:Array Oper} {o:Oper} {ac:Act} {wl:World} {K:Act->World->Prop} {Q:Exit->Act->World->Prop} {E:Prop} (z:o.guard=none) (s x:Operand)
  (ho:o.op=.call { callee:=.builtin .append,args:=#[s,x],argTypes:=#[23,23] }) (w0:World) (hO:Only [] w0 wl) (b:Nat) (hs:ac.eval s=.slice (some ⟨b,0,none⟩) 0 0) (y:aN wl w0.heap.size (.slice (some ⟨b,0,none⟩) 0 0) [])
  (va:Option Addr) (n e:Nat) (l:List Int) (hx:ac.eval x=.slice va n e) (hl:n=l.length) (hr:mY w0 (.slice va n e) l) (hb:n<=1000000)
  (h:∀ g cap w',aN w' w0.heap.size (.slice (some ⟨g,0,none⟩) n cap) l->Only [] w0 w'->(∀ B u,(Value.slice (some ⟨b,0,none⟩) 0 0).ownBlock≠some B->wl.cell? ⟨B,0,none⟩=some u->w'.cell? ⟨B,0,none⟩=some u)->K (ac.put o.dst (.slice (some ⟨g,0,none⟩) n cap)) w') :
  if Region.wanted o (yielded ops ac.tmps)=true then Oper.wp prog o ac wl K Q else E:=by
 by_cases h0:n=0
 ·subst h0;have d:l=[]:=List.eq_nil_of_length_eq_zero hl.symm;subst d;exact aIW z s x ho (some ⟨b,0,none⟩) 0 0 (Nat.le_refl _) va e hs hx (h b 0 wl y hO (fun _ _ _ hc=>hc))
 rcases hr with ⟨rb,ro,rc,e1,e2⟩|⟨oa,rc,e1,e2⟩
 ·simp only [Value.slice.injEq] at e1;obtain ⟨rfl,_,rfl⟩:=e1;exact aFH z s x ho w0 hO _ [] hs y ⟨rb,ro,none⟩ n e l hx hl.symm (fun j u hu=>by
   have hj:=(List.getElem?_eq_some_iff.1 hu).1;have:=e2 j hj;rw [gI,hu] at this;rw [dN];exact hO.cell this (by simp)) (by omega) n (by simp) hb (fun g cap w' h1 h2 h3=>h g cap w' (by simpa using h1) h2 h3)
 exact absurd (by rw [hl,e2];rfl) h0
end
set_option maxHeartbeats 6400000
theorem uF {l:List En} {x:Nat} (hx:x<l.length) (k:Int) (n:Nat):nxt (l.set x (eAt l x).off) k n=nxt l k n:=by
 unfold nxt;rw [List.length_set];refine sS fun j y=>?_;rw [kG hx]
 by_cases e:j=x
 ·rw [if_pos e,e];rfl
 rw [if_neg e]
section
variable {l:List Asn} {i j k q r b:Nat} {m:Mk} {t s:Tb} {w0 w w':World} {ev qv wv:Value} {nx:Nat} {wl:List Bool}
theorem QL.aCG (h:Three l i j k) (hf:Fam w0 w (QL l i j k q r b m t)) {g n c:Nat} (d:lC w b (.slice (some ⟨g,0,none⟩) n c) qv wv nx wl t) {x:Nat} (hx:x<t.ents.length):lC (w.setCell ⟨g,x*3+1,none⟩ (.int .i64 0)) b (.slice (some ⟨g,0,none⟩) n c) qv wv nx wl ⟨t.ents.set x (eAt t.ents x).off,t.q,t.ph,t.nx,t.fd⟩/\Fam w0 (w.setCell ⟨g,x*3+1,none⟩ (.int .i64 0)) (QL l i j k q r b m ⟨t.ents.set x (eAt t.ents x).off,t.q,t.ph,t.nx,t.fd⟩):=by
 have hn:=d.n1 g rfl;have ho:Only [g] w (w.setCell ⟨g,x*3+1,none⟩ (.int .i64 0)):=(Only.refl _ w).set (.inl (by simp)) _;have hT:lC (w.setCell ⟨g,x*3+1,none⟩ (.int .i64 0)) b (.slice (some ⟨g,0,none⟩) n c) qv wv nx wl ⟨t.ents.set x (eAt t.ents x).off,t.q,t.ph,t.nx,t.fd⟩:=
  ⟨d.row.imp fun U y=>ho.row y (by simpa using Ne.symm hn.1),d.ents.put hx 0 rfl,d.q.only ho (fun z hz e=>hn.2.2 (by simp at e;rw [<-e];exact hz)),d.wh.only ho (fun z hz e=>hn.2.1 (by simp at e;rw [<-e];exact hz)),
   ⟨fun e=>by show nxt (t.ents.set x _) 1 nx=nxt (t.ents.set x _) 1 t.nx;rw [uF hx,uF hx];exact d.now.1 e,fun e=>by show nxt (t.ents.set x _) 2 nx=nxt (t.ents.set x _) 2 t.nx;rw [uF hx,uF hx];exact d.now.2.1 e,fun e=>by show nxt (t.ents.set x _) 3 nx=nxt (t.ents.set x _) 3 t.nx;rw [uF hx,uF hx];exact d.now.2.2 e⟩,
   ⟨d.two.1,fun e=>⟨by show wl.length=(t.ents.set x _).length;rw [List.length_set];exact (d.two.2 e).1,fun y hy hk=>by
    replace hy:y<t.ents.length:=by have:y<(t.ents.set x (eAt t.ents x).off).length:=hy;rwa [List.length_set] at this
    replace hk:(eAt (t.ents.set x (eAt t.ents x).off) y).kind=2:=hk;rw [kG hx] at hk;refine (d.two.2 e).2 y hy ?_
    by_cases e2:y=x
    ·rw [if_pos e2] at hk;rw [e2];exact hk
    rw [if_neg e2] at hk;exact hk⟩⟩,d.n1,d.n2,d.n3⟩
 exact ⟨hT,QL.trT h hf d _ qv wv nx wl _ hT (fun x hx=>.inl hx) (ho.toP (fun x hx=>.inl (.inr (.inl (by simp at hx;rw [hx];rfl)))))⟩
theorem aEy (w:World) (T3:Three l i j k) (z:Fam w0 w (QL l i j k q r b m t)) (hg:t.Good m):Calls prog 21 #[.pointer (some ⟨b,0,none⟩),.pointer (some ⟨r,0,none⟩)] w (fun e w'=>e=.returned (.int .i64 (t.begin m).1)/\Fam w0 w' (QL l i j k q r b m (t.begin m).2)):=by
 refine aF fun R d=>?_;obtain ⟨ev,qv,wv,nx,wl,y⟩:=QL.tr T3 z;obtain ⟨z0,z1,z2,z3,z4,zf⟩:=y.cells;have cd:=kF w T3.t2 z;have HF:=aA z;unfold Tb.begin at d
 by_cases hp:t.ph=0
 rotate_left
 ·rw [if_pos (.inl hp)] at d;have h5:((t.ph:Int) != 0)=true:=by simp;omega
  clear z hg y z0 z1 z3 z4 zf hp cd;generalize t.ph=ph at*;go_in;go_wp2;exact d.o _ _ ⟨rfl,HF.o⟩
 rw [hp] at z2;replace z2:w.cell? ⟨b,2,none⟩=some (.int .i64 0):=z2
 by_cases hl:m.list=[]
 rotate_left
 ·rw [if_pos (.inr hl)] at d;rw [decide_eq_false hl] at cd;clear z hg y z0 z1 z3 z4 zf hp hl;go_in;go_wp2_with fail;go_fit cd;rintro e _ ⟨rfl,rfl⟩;go_wp2;exact d.o _ _ ⟨rfl,HF.o⟩
 rw [if_neg (fun h=>h.elim (fun h=>h hp) (fun h=>h hl))] at d;rw [decide_eq_true hl] at cd;have hP:Fam w0 ((w.setCell ⟨b,2,none⟩ (.int .i64 1)).setCell ⟨b,3,none⟩ (.int .i64 0)) (QL l i j k q r b m (t.at 1 0)):=by
  have ho:Only [b] w ((w.setCell ⟨b,2,none⟩ (.int .i64 1)).setCell ⟨b,3,none⟩ (.int .i64 0)):=((Only.refl _ w).set (.inl (by simp)) _).set (.inl (by simp)) _;obtain ⟨h1,h2,h3⟩:=y.rest ho;exact QL.trT T3 z y ev qv wv 0 wl _ ⟨y.row.imp fun U x=>(x.set 2 _).set 3 _,h1,h2,h3,aAI.self _,⟨y.two.1,fun e=>by simp [Tb.at] at e⟩,y.n1,y.n2,y.n3⟩ (fun x hx=>.inl hx) (ho.toP (fun x hx=>.inl (.inl (by simpa using hx))))
 have h0:(t.at 1 0).Good m:=⟨hg.b.at _ _,by show 1<=4;omega,Nat.zero_le _,fun e=>by simp [Tb.at] at e,fun e=>by simp [Tb.at] at e⟩;have cs:=iD _ T3 hP h0 (Nat.le_refl 1);have f2:=zf 2;have f3:=zf 3;clear z hg y z0 z1 z4 hP h0 zf hp hl;go_in;go_wp2_with fail;go_fit cd;rintro e _ ⟨rfl,rfl⟩;go_wp2_with fail;go_fit cs;rintro e w1 ⟨rfl,z⟩;have h4:=aA z;clear z cs cd;go_wp2;exact d.o _ _ ⟨rfl,h4.o⟩
theorem aJs (w:World) (T3:Three l i j k) (hf:Fam w0 w (QL l i j k q r b m s)) (x:Nat) (hx:x<s.ents.length) (h6:(eAt s.ents x).kind≠2) (hp:s.ph≠2) (hM:m.M.Ok):Calls prog 153 #[.pointer (some ⟨b,0,none⟩),.pointer (some ⟨r,0,none⟩),.int .i64 (x:Int)] w (fun e w'=>e=.returned (.tuple #[])/\Fam w0 w' (QL l i j k q r b (s.clear m x).2 (s.clear m x).1)):=by
 refine aF fun R y=>?_;obtain ⟨ev,qv,wv,nx,wl,ht⟩:=QL.tr T3 hf;obtain ⟨z0,z1,z2,z3,z4,zf⟩:=ht.cells;obtain ⟨g,cap,rfl,h8,_,c0,c1,c2,cf⟩:=ht.ents.at hx;have HF:=aA hf;have HT:=aA ht;have HX:=aA hx;have x3:((eAt s.ents x).kind == 2)=false:=by rw [beq_eq_false_iff_ne];exact h6
 have x4:(0:Int)<=(x:Int):=by omega
 have x5:(x:Int)<(s.ents.length:Int):=by omega
 have z:Hid (m.isW (eAt s.ents x).tgt=false->s.clear m x=(s,m)):=fun h=>by unfold Tb.clear;simp only;rw [if_neg hp,if_neg (by rw [h];simp)]
 have h1:Hid (m.isW (eAt s.ents x).tgt=true->s.clear m x=(⟨s.ents.set x (eAt s.ents x).off,s.q,s.ph,s.nx,s.fd⟩,m)):=fun h=>by unfold Tb.clear;simp only;rw [if_neg hp,if_pos h]
 have d:Hid (Calls prog 161 #[.pointer (some ⟨r,0,none⟩),.int .i64 (eAt s.ents x).tgt] w (fun e w'=>e=.returned (.bool (m.isW (eAt s.ents x).tgt))/\Only [] w w')):=xZ w T3.t2 hf _;have HZ:Hid ((eAt s.ents x).tgt=0->m.isW (eAt s.ents x).tgt=false):=fun h=>by
  cases e:m.isW (eAt s.ents x).tgt
  ·rfl
  exact absurd h (aNU hM e).1
 clear hf ht hx h6 hp hM z1 z2 z3 z4 zf c2 cf h8;generalize (eAt s.ents x).kind=kd at *
 by_cases h0:(eAt s.ents x).tgt=0
 ·have hc:=z.o (HZ.o h0);rw [hc] at y;rw [h0] at c1;clear z h1 d HZ hc h0;generalize s.ents.length=h7 at*;go_in;go_wp2_with fail
  first
  | (refine bodyPost_ret (results_none rfl _ _ _) rfl ?_;exact y.o _ _ ⟨rfl,HF.o⟩)
  | exact y.o _ _ ⟨rfl,HF.o⟩
  | (go_end0;exact y.o _ _ ⟨rfl,HF.o⟩)
 have x2:((eAt s.ents x).tgt != 0)=true:=by simpa using h0
 cases hw:m.isW (eAt s.ents x).tgt with
 | false=>
  have hc:=z.o hw;have cw:=d.o;rw [hc] at y;rw [hw] at cw;clear z h1 d HZ hc h0 hw;generalize (eAt s.ents x).tgt=tg at*;generalize s.ents.length=h7 at*;go_in;go_wp2_with fail;go_fit cw;rintro e w1 ⟨rfl,ho⟩;have h3:=aA (HF.o.aK ho);clear cw ho;go_wp2_with fail
  first
  | (refine bodyPost_ret (results_none rfl _ _ _) rfl ?_;exact y.o _ _ ⟨rfl,h3.o⟩)
  | exact y.o _ _ ⟨rfl,h3.o⟩
  | (go_end0;exact y.o _ _ ⟨rfl,h3.o⟩)
 | true=>
  have hc:=h1.o hw;have cw:=d.o;rw [hc] at y;rw [hw] at cw;clear z h1 d HZ hc h0 hw;go_in;go_wp2_with fail;go_fit cw;rintro e w1 ⟨rfl,ho⟩;have h2:=HT.o.aK ho;obtain ⟨_,h5⟩:=QL.aCG T3 (HF.o.aK ho) h2 HX.o;have h4:=aA h5;have y0:=h2.cells.1;obtain ⟨g2,h9,hv,_,_,_,d1,_,df⟩:=h2.ents.at HX.o;simp only [Value.slice.injEq,Option.some.injEq,Addr.mk.injEq,and_true,true_and] at hv;obtain ⟨rfl,rfl⟩:=hv;have x1:=df (x*3+1);clear cw ho h2 h5 c0 c1 z0 df;generalize s.ents.length=h7 at*;go_wp2_with fail
  first
  | (refine bodyPost_ret (results_none rfl _ _ _) rfl ?_;exact y.o _ _ ⟨rfl,h4.o⟩)
  | exact y.o _ _ ⟨rfl,h4.o⟩
  | (go_end0;exact y.o _ _ ⟨rfl,h4.o⟩)
theorem aJt (w:World) (T3:Three l i j k) (hf:Fam w0 w (QL l i j k q r b m s)) (x:Nat) (hx:x<s.ents.length) (h3:(eAt s.ents x).kind=2) (hp:s.ph=2) (hz:s.fd x=true->(eAt s.ents x).tgt≠0) (hm:m.Ok) (hq:s.q.length<=20):Calls prog 153 #[.pointer (some ⟨b,0,none⟩),.pointer (some ⟨r,0,none⟩),.int .i64 (x:Int)] w (fun e w'=>e=.returned (.tuple #[])/\Fam w0 w' (QL l i j k q r b (s.clear m x).2 (s.clear m x).1)):=by
 refine aF fun R hR=>?_;obtain ⟨ev,qv,wv,nx,wl,ht⟩:=QL.tr T3 hf;obtain ⟨z0,z1,z2,z3,z4,zf⟩:=ht.cells;obtain ⟨g,cap,rfl,a4,_,c0,c1,c2,cf⟩:=ht.ents.at hx;have HF:=aA hf;have HT:=aA ht;have HX:=aA hx;have HM:=aA hm;have b7:(0:Int)<=(x:Int):=by omega
 have b8:(x:Int)<(s.ents.length:Int):=by omega
 obtain ⟨h5,z5⟩:=ht.two.2 hp;have z6:=z5 x hx h3;rcases ht.wh.form with ⟨_,e⟩|⟨wg,wc,rfl,_,_,_,y9⟩
 ·rw [e] at h5;simp at h5;omega
 have h9:=y9 x (by rw [h5];exact hx);rw [z6] at h9;rw [h5] at z4;have f1:=cf (x*3+1);rw [h3] at c0;have x3:Hid (s.fd x=false->s.clear m x=(s,m)):=fun h=>by unfold Tb.clear;simp only;rw [if_pos hp,if_neg (by rw [h];simp)]
 have x4:Hid (s.fd x=true->s.clear m x=(⟨s.ents.set x (eAt s.ents x).off,s.q ++ [(eAt s.ents x).tag],s.ph,s.nx,s.fd⟩,m.bG (eAt s.ents x).tgt)):=fun h=>by unfold Tb.clear;simp only;rw [if_pos hp,if_pos h]
 have HZ:=aA hz;have HQ:=aA hq;clear hf ht hx h3 hp hm hq hz h5 z5 z6 y9 z1 z2 z3 zf c2 cf a4
 cases hd:s.fd x with
 | false=>
  have hc:=x3.o hd;rw [hc] at hR;rw [hd] at h9;clear x3 x4 HZ hc hd
  by_cases h0:(eAt s.ents x).tgt=0
  ·rw [h0] at c1;clear h0;generalize s.ents.length=x8 at*;go_in;go_wp2_with fail
   first
   | (refine bodyPost_ret (results_none rfl _ _ _) rfl ?_;exact hR.o _ _ ⟨rfl,HF.o⟩)
   | exact hR.o _ _ ⟨rfl,HF.o⟩
   | (go_end0;exact hR.o _ _ ⟨rfl,HF.o⟩)
  have a3:((eAt s.ents x).tgt != 0)=true:=by simpa using h0
  clear h0;generalize (eAt s.ents x).tgt=tg at*;generalize s.ents.length=x8 at*;go_in;go_wp2_with fail
  first
  | (refine bodyPost_ret (results_none rfl _ _ _) rfl ?_;exact hR.o _ _ ⟨rfl,HF.o⟩)
  | exact hR.o _ _ ⟨rfl,HF.o⟩
  | (go_end0;exact hR.o _ _ ⟨rfl,HF.o⟩)
 | true=>
  have hc:=x4.o hd;have a3:((eAt s.ents x).tgt != 0)=true:=by simpa using HZ.o hd
  rw [hc] at hR;rw [hd] at h9;clear x3 x4 HZ hc hd;obtain ⟨h8,y5⟩:=QL.aCG T3 HF.o HT.o HX.o;have y3:=aA y5;have h6:=aA h8;obtain ⟨k0,k1,_,_,_,kf⟩:=h8.cells;obtain ⟨g2,z7,hv,_,_,_,_,k2,_⟩:=h8.ents.at (i:=x) (by show x<(s.ents.set x _).length;rw [List.length_set];exact HX.o);simp only [Value.slice.injEq,Option.some.injEq,Addr.mk.injEq,and_true] at hv;obtain ⟨⟨rfl⟩,x9,rfl⟩:(g=g2)/\True/\cap=z7:=by first|exact ⟨hv.1,trivial,hv.2.2⟩|exact ⟨hv.1,trivial,hv.2⟩
  clear x9;have h7:(eAt (s.ents.set x (eAt s.ents x).off) x).tag=(eAt s.ents x).tag:=by rw [kG HX.o,if_pos rfl];rfl
  replace k2:(w.setCell ⟨g,x*3+1,none⟩ (.int .i64 0)).cell? ⟨g,x*3+2,none⟩=some (.int .i64 (eAt s.ents x).tag):=by rw [<-h7];exact k2
  have a6:=kf 1;clear h8 y5 kf h7 hv;generalize x2:(eAt s.ents x).tag=y at*;obtain ⟨qa,qc,rfl⟩:=h6.o.q.len;obtain ⟨qn,h2⟩:∃ z,z=s.q.length:=⟨_,rfl⟩;have z9:=aA h2;have z8:Hid (mY (w.setCell ⟨g,x*3+1,none⟩ (.int .i64 0)) (.slice qa qn qc) s.q):=by show mY _ _ _;rw [h2];exact h6.o.q.read
  replace k1:(w.setCell ⟨g,x*3+1,none⟩ (.int .i64 0)).cell? ⟨b,1,none⟩=some (.slice qa qn qc):=by rw [h2];exact k1
  have a0:qn<=1000000:=by rw [h2];have:=HQ.o;omega
  have a1:qn+1<=1000000:=by rw [h2];have:=HQ.o;omega
  have a5:s.q.length+1=qn+1:=by rw [h2]
  have iG:Hid (∀ g3 h1 w3,aN w3 (w.setCell ⟨g,x*3+1,none⟩ (.int .i64 0)).heap.size (.slice (some ⟨g3,0,none⟩) (qn+1) h1) (s.q ++ [y])->Only [] (w.setCell ⟨g,x*3+1,none⟩ (.int .i64 0)) w3->
    ((w3.cell? ⟨b,1,none⟩=some (.slice qa qn qc)/\w3.frozen? ⟨b,1,none⟩=false)/\((w3.setCell ⟨b,1,none⟩ (.slice (some ⟨g3,0,none⟩) (qn+1) h1)).cell? ⟨b,0,none⟩=some (.slice (some ⟨g,0,none⟩) s.ents.length cap)/\(w3.setCell ⟨b,1,none⟩ (.slice (some ⟨g3,0,none⟩) (qn+1) h1)).cell? ⟨g,x*3+2,none⟩=some (.int .i64 y)/\aPx b 1 (w3.setCell ⟨b,1,none⟩ (.slice (some ⟨g3,0,none⟩) (qn+1) h1)))/\
     Hid (Fam w0 (w3.setCell ⟨b,1,none⟩ (.slice (some ⟨g3,0,none⟩) (qn+1) h1)) (QL l i j k q r b m ⟨s.ents.set x (eAt s.ents x).off,s.q ++ [y],s.ph,s.nx,s.fd⟩)))):=fun g3 h1 w3 hi ho=>by
   obtain ⟨e1,e2,hT,hF⟩:=QL.aNM T3 y3.o h6.o hi ho;obtain ⟨y0,y1,_,_,_,yf⟩:=hT.cells;obtain ⟨g4,b4,e4,_,_,_,_,y2,_⟩:=hT.ents.at (i:=x) (by show x<(s.ents.set x _).length;rw [List.length_set];exact HX.o);simp only [Value.slice.injEq,Option.some.injEq,Addr.mk.injEq,and_true] at e4;obtain rfl:g=g4:=e4.1;have h7:(eAt (s.ents.set x (eAt s.ents x).off) x).tag=y:=by rw [kG HX.o,if_pos rfl,<-x2];rfl
   refine ⟨⟨by rw [h2];exact e1,e2⟩,⟨y0,?_,⟨⟨_,y1⟩,yf 1⟩⟩,hF⟩;rw [<-h7];exact y2
  have b6:Hid ((eAt s.ents x).tgt=(eAt s.ents x).tgt):=rfl;clear y3 h6 h2 x2 HQ HF HT;go_in;go_upto_region 7 with fail;generalize (w.setCell ⟨g,x*3+1,none⟩ (.int .i64 0))=d at*;generalize s.ents.length=x8 at*;clear z0 z4 c0 c1 h9 f1;have a8:(d.alloc (.cells #[] 3)).cell? ⟨b,1,none⟩=some (.slice qa qn qc):=((Only.refl [] d).alloc _).cell0 k1;have a9:(d.alloc (.cells #[.int .i64 y] 3)).cell? ⟨b,1,none⟩=some (.slice qa qn qc):=((Only.refl [] d).alloc _).cell0 k1;have b0:((d.alloc (.cells #[] 3)).alloc (.cells #[.int .i64 y] 3)).cell? ⟨b,1,none⟩=some (.slice qa qn qc):=(((Only.refl [] d).alloc _).alloc _).cell0 k1;have b1:((d.alloc (.cells #[.int .i64 y] 3)).alloc (.cells #[] 3)).cell? ⟨b,1,none⟩=some (.slice qa qn qc):=(((Only.refl [] d).alloc _).alloc _).cell0 k1;have hO:Only [] d d.drew:=(Only.refl _ _).drewN 1;have b5:aPx b 1 d.drew:=aQL hO k1 a6;clear hO;have a7:(d.alloc (.cells #[] 3)).cell? ⟨b,0,none⟩=some (.slice (some ⟨g,0,none⟩) x8 cap):=((Only.refl [] d).alloc _).cell0 k0;have b2:(d.alloc (.cells #[] 3)).cell? ⟨g,x*3+2,none⟩=some (.int .i64 y):=((Only.refl [] d).alloc _).cell0 k2;go_region_law
   (first
    | (refine aOn (by rfl) (.tmp 58) (.tmp 62) (by rfl) d (by first|exact aOE d _|exact aOD d _ _) _ (by rfl) (by first|exact aHr d|exact aHq d _ _|exact aET d _ _) qa qn qc s.q (by rfl) z9.o z8.o a0 ?_;intro g1 b3 w2 x6 h4 x7;have y0:=h4.cell0 k0;have y2:=h4.cell0 k2;first|(have x1:=x7 (d.heap.size+1) (.int .i64 y) (aMo _) (aHg d _ _ y))|(have x1:=x7 d.heap.size (.int .i64 y) (aMp _) (aJD d _ _ y))|skip)
    | (refine aFH (by rfl) (.tmp 63) (.tmp 72) (by rfl) d (by first|exact h4|exact h4.alloc _) _ s.q (by rfl) (by first|exact x6|exact x6.alloc _) _ 1 1 [y] (by rfl) rfl (by first|exact yO x1|exact aEH w2 _ y) (by omega) (qn+1) a5 a1 ?_;intro g3 h1 w3 y7 y8 h3;obtain ⟨⟨a2,fst⟩,⟨s0,s2,sH⟩,hE⟩:=iG.o _ _ _ y7 y8))
  all_goals (
   have y4:=aBd _ T3.t2 hE.o HM.o (eAt s.ents x).tgt;clear x6 h4 x7 y7 y8 h3 a2 fst s0 s2 sH hE iG a8 a9 b0 b1 a7 b2 y0 y2;generalize (w3.setCell ⟨b,1,none⟩ _)=w4 at*;go_wp2_with fail;go_fit y4;rintro e w5 ⟨rfl,y6⟩;have x5:=aA y6;clear y4 y6;go_wp2_with fail
   first
   | (refine bodyPost_ret (results_none rfl _ _ _) rfl ?_;exact hR.o _ _ ⟨rfl,x5.o⟩)
   | exact hR.o _ _ ⟨rfl,x5.o⟩
   | (go_end0;exact hR.o _ _ ⟨rfl,x5.o⟩))
end
section
variable {l:List Asn} {i j k q r b:Nat} {m:Mk} {t s:Tb} {w0 w w':World} {ev qv wv:Value} {nx:Nat} {wl:List Bool}
theorem aEx (w:World) (T3:Three l i j k) (hf:Fam w0 w (QL l i j k q r b m s)) (hg:s.Good m) (hs:s.Stl m) (hi:s.nx<s.ents.length) (h3:s.ph≠3) (hm:m.Ok):Calls prog 153 #[.pointer (some ⟨b,0,none⟩),.pointer (some ⟨r,0,none⟩),.int .i64 (s.nx:Int)] w (fun e w'=>e=.returned (.tuple #[])/\Fam w0 w' (QL l i j k q r b (s.clear m s.nx).2 (s.clear m s.nx).1)):=by
 have h1:=hs.p1;have h4:=hg.p4
 by_cases z:s.ph=2
 ·have y:=(hs.a (.inr z)).2;rw [z] at y;exact aJt w T3 hf s.nx hi y z (fun hd=>hg.fd z _ (Nat.le_refl _) hi hd) hm hg.b.q20
 refine aJs w T3 hf s.nx hi ?_ z hm.hf.ok
 by_cases h5:s.ph=1
 ·have y:=(hs.a (.inl h5)).2;rw [h5] at y;rw [y];decide
 rw [hs.d (by omega) hi];decide
theorem Tb.aJG (hg:s.Good m) (hs:s.Stl m) (h3:s.ph≠3) (z:aAI s nx):nxt s.ents ((if s.ph<3 then s.ph else 3:Nat):Int) nx=s.nx:=by
 have h1:=hs.p1;have h4:=hg.p4;have:s.ph=1\/s.ph=2\/s.ph=4:=by omega
 rcases this with e|e|e
 ·have y:=hs.a (.inl e);rw [e] at y ⊢;exact (z.1 e).trans (rQ y.1 y.2)
 ·have y:=hs.a (.inr e);rw [e] at y ⊢;exact (z.2.1 e).trans (rQ y.1 y.2)
 rw [e];refine (z.2.2 e).trans ?_
 by_cases hi:s.nx<s.ents.length
 ·exact rQ hi (hs.d e hi)
 rw [aEG (by omega)];have:=hg.nl;omega
theorem aMg (w:World) (T3:Three l i j k) (z:Fam w0 w (QL l i j k q r b m t)) (hg:t.Good m) (hm:m.Ok) (d:t.ph=0):Calls prog 69 #[.pointer (some ⟨b,0,none⟩),.pointer (some ⟨r,0,none⟩)] w (fun e w'=>e=.returned (.tuple #[.int .i64 (t.step m).1,.int .i64 (t.step m).2.1,.int .i64 (t.step m).2.2.1])/\Fam w0 w' (QL l i j k q r b (t.step m).2.2.2.2 (t.step m).2.2.2.1)):=by
 refine aF fun R y=>?_;obtain ⟨ev,qv,wv,nx,wl,ht⟩:=QL.tr T3 z;obtain ⟨z0,z1,z2,z3,z4,zf⟩:=ht.cells;have HF:=aA z;unfold Tb.step at y;rw [if_pos d] at y;rw [d] at z2;replace z2:w.cell? ⟨b,2,none⟩=some (.int .i64 0):=z2;clear z hg hm ht z0 z1 z3 z4 zf d;go_in;go_wp2;refine bodyPost_ret (results_tmp3 rfl _ _ _) rfl ?_;exact y.o _ _ ⟨rfl,HF.o⟩
theorem aMf (w:World) (z:Three l i j k) (y:Fam w0 w (QL l i j k q r b m t)) (hg:t.Good m) (hm:m.Ok) (hp:t.ph≠0) (h3:(t.settle m).ph=3):Calls prog 69 #[.pointer (some ⟨b,0,none⟩),.pointer (some ⟨r,0,none⟩)] w (fun e w'=>e=.returned (.tuple #[.int .i64 (t.step m).1,.int .i64 (t.step m).2.1,.int .i64 (t.step m).2.2.1])/\Fam w0 w' (QL l i j k q r b (t.step m).2.2.2.2 (t.step m).2.2.2.1)):=by
 refine aF fun R d=>?_;obtain ⟨ev,qv,wv,nx,wl,ht⟩:=QL.tr z y;obtain ⟨z0,z1,z2,z3,z4,zf⟩:=ht.cells;have cs:=iD w z y hg (by omega);have h5:((t.ph:Int) == 0)=false:=by rw [beq_eq_false_iff_ne];omega
 have HM:=aA hm;have h1:=hg.settle (m:=m) hm.hf.ok;have h2:=Tb.dA (m:=m) (t:=t) (by omega) hg.p4;unfold Tb.step at d;rw [if_neg hp] at d;simp only at d;clear y hg hm ht z0 z1 z3 z4 zf hp;generalize t.settle m=s at*;have h4:=aA h1;have h6:=aA h2;clear h1 h2;rw [if_pos h3] at d;have H3:=aA h3;clear h3;generalize t.ph=ph at*;go_in;go_wp2_with fail;go_fit cs;rintro e w1 ⟨rfl,y⟩;clear cs h5 z2;obtain ⟨ev,qv,wv,nx,wl,ht⟩:=QL.tr z y;obtain ⟨z0,z1,z2,z3,z4,zf⟩:=ht.cells;rw [H3.o] at z2;replace z2:w1.cell? ⟨b,2,none⟩=some (.int .i64 3):=z2;have cm:=aDz w1 z.t2 y HM.o;clear y ht zf z0 z1 z3 z4;go_wp2_with fail;go_fit cm;rintro e w3 ⟨rfl,y⟩;have hM:=Mk.nM (m:=m);have h0:s.Good m.step.2.2:=h4.o.marker (fun k hk=>by rw [hM];exact hk);have cs:=iD w3 z y h0 (by have:=H3.o;omega);clear y hM h0 cm;generalize m.step=rr at*;obtain ⟨r1,r2,r3⟩:=rr;go_wp2_with fail;go_fit cs;rintro e w4 ⟨rfl,y⟩;have HF:=aA y;clear y cs;go_wp2;refine bodyPost_ret (results_tmp3 rfl _ _ _) rfl ?_;exact d.o _ _ ⟨rfl,HF.o⟩
theorem aEv (w:World) (T3:Three l i j k) (y:Fam w0 w (QL l i j k q r b m t)) (hg:t.Good m) (hm:m.Ok) (hp:t.ph≠0) (h3:(t.settle m).ph≠3) (hl:(t.settle m).ents.length<=(t.settle m).nx):Calls prog 69 #[.pointer (some ⟨b,0,none⟩),.pointer (some ⟨r,0,none⟩)] w (fun e w'=>e=.returned (.tuple #[.int .i64 (t.step m).1,.int .i64 (t.step m).2.1,.int .i64 (t.step m).2.2.1])/\Fam w0 w' (QL l i j k q r b (t.step m).2.2.2.2 (t.step m).2.2.2.1)):=by
 refine aF fun R hR=>?_;obtain ⟨ev,qv,wv,nx,wl,z⟩:=QL.tr T3 y;obtain ⟨z0,z1,z2,z3,z4,zf⟩:=z.cells;have cs:=iD w T3 y hg (by omega);have x2:((t.ph:Int) == 0)=false:=by rw [beq_eq_false_iff_ne];omega
 have HM:=aA hm;have h5:=hg.settle (m:=m) hm.hf.ok;have h8:=Tb.dA (m:=m) (t:=t) (by omega) hg.p4;unfold Tb.step at hR;rw [if_neg hp] at hR;simp only at hR;clear y hg hm z z0 z1 z3 z4 zf hp;generalize t.settle m=s at*;have d:=aA h5;have h0:=aA h8;clear h5 h8;rw [if_neg h3,if_pos hl] at hR;have H3:=aA h3;have h7:s.ph=4:=by
  have h1:=h0.o.p1;have h4:=d.o.p4
  by_cases e:s.ph=1\/s.ph=2
  ·have:=(h0.o.a e).1;omega
  omega
 have H4:=aA h7;have HL:=aA hl;clear h3 hl h7;generalize t.ph=ph at*;go_in;go_wp2_with fail;go_fit cs;rintro e w1 ⟨rfl,y⟩;clear cs x2 z2;obtain ⟨ev,qv,wv,nx,wl,z⟩:=QL.tr T3 y;obtain ⟨z0,z1,z2,z3,z4,zf⟩:=z.cells;have x1:((s.ph:Int) == 3)=false:=by rw [beq_eq_false_iff_ne];have:=H3.o;omega
 have h6:=Tb.aJG d.o h0.o H3.o z.now;have cl:=lG w1 z d.o.b.le (if s.ph<3 then s.ph else 3) nx;rw [h6] at cl;rw [H4.o] at z2 cl;replace z2:w1.cell? ⟨b,2,none⟩=some (.int .i64 4):=z2;have h2:¬ s.nx<s.ents.length:=by have:=HL.o;omega
 rw [if_neg h2,decide_eq_false h2] at cl;replace cl:Calls prog 152 #[.pointer (some ⟨b,0,none⟩),.int .i64 3,.int .i64 (nx:Int)] w1 _:=cl;have h9:Hid (Fam w0 (w1.setCell ⟨b,2,none⟩ (.int .i64 0)) (QL l i j k q r b m (s.at 0 0))):=QL.aCI T3 y 0 (by omega) 0 (fun _ _ _ _ _ _=>⟨fun e=>by simp [Tb.at] at e,fun e=>by simp [Tb.at] at e,fun e=>by simp [Tb.at] at e⟩);have f2:=zf 2;clear y z zf z0 z1 z4 h6 h2 x1;go_wp2_with fail;go_fit cl;rintro e _ ⟨rfl,rfl⟩;clear cl;go_wp2;refine bodyPost_ret (results_tmp3 rfl _ _ _) rfl ?_;exact hR.o _ _ ⟨rfl,h9.o⟩
theorem aJq (w:World) (T3:Three l i j k) (hf:Fam w0 w (QL l i j k q r b m t)) (hg:t.Good m) (hm:m.Ok) (hp:t.ph≠0) (h3:(t.settle m).ph≠3) (hl:¬ (t.settle m).ents.length<=(t.settle m).nx):Calls prog 69 #[.pointer (some ⟨b,0,none⟩),.pointer (some ⟨r,0,none⟩)] w (fun e w'=>e=.returned (.tuple #[.int .i64 (t.step m).1,.int .i64 (t.step m).2.1,.int .i64 (t.step m).2.2.1])/\Fam w0 w' (QL l i j k q r b (t.step m).2.2.2.2 (t.step m).2.2.2.1)):=by
 refine aF fun R hR=>?_;obtain ⟨ev,qv,wv,nx,wl,ht⟩:=QL.tr T3 hf;obtain ⟨z0,z1,z2,z3,z4,zf⟩:=ht.cells;have cs:=iD w T3 hf hg (by omega);have y6:((t.ph:Int) == 0)=false:=by rw [beq_eq_false_iff_ne];omega
 have HM:=aA hm;have y0:=hg.settle (m:=m) hm.hf.ok;have y2:=Tb.dA (m:=m) (t:=t) (by omega) hg.p4;unfold Tb.step at hR;rw [if_neg hp] at hR;simp only at hR;clear hf hg hm ht z0 z1 z3 z4 zf hp;generalize t.settle m=s at*;have h0:=aA y0;have h2:=aA y2;clear y0 y2;rw [if_neg h3,if_neg hl] at hR;have H3:=aA h3;have HL:=aA hl;clear h3 hl;generalize t.ph=ph at*;go_in;go_wp2_with fail;go_fit cs;rintro e w1 ⟨rfl,hf⟩;clear cs y6 z2;obtain ⟨ev,qv,wv,nx,wl,ht⟩:=QL.tr T3 hf;obtain ⟨z0,z1,z2,z3,z4,zf⟩:=ht.cells;have x1:((s.ph:Int) == 3)=false:=by rw [beq_eq_false_iff_ne];have:=H3.o;omega
 have y1:=Tb.aJG h0.o h2.o H3.o ht.now;have cl:=lG w1 ht h0.o.b.le (if s.ph<3 then s.ph else 3) nx;rw [y1] at cl;have h7:s.nx<s.ents.length:=by have:=HL.o;omega
 rw [if_pos h7,decide_eq_true h7] at cl;have x6:Hid (Calls prog 153 #[.pointer (some ⟨b,0,none⟩),.pointer (some ⟨r,0,none⟩),.int .i64 (s.nx:Int)] w1 (fun e w'=>e=.returned (.tuple #[])/\Fam w0 w' (QL l i j k q r b (s.clear m s.nx).2 (s.clear m s.nx).1))):=aEx w1 T3 hf h0.o h2.o h7 H3.o HM.o;have x7:=aA (Tb.Good.clear h0.o h2.o h7 H3.o HM.o);have x8:Hid ((s.clear m s.nx).1.ph=s.ph):=(Tb.clear_facts h0.o h2.o h7 H3.o HM.o.hf.ok).2.2.2.1;have x9:=aA h2.o.p1;have y7:s.nx<20:=by have:=h0.o.b.le;omega
 obtain ⟨sp,x5⟩:∃ z,z=s.ph:=⟨_,rfl⟩;have x4:=aA x5;rw [<-x5] at z2 x1 cl;have y5:sp=1\/sp=2\/sp=4:=by
  have h1:=h2.o.p1;have h4:=h0.o.p4;have:=H3.o;omega
 clear hf ht zf z0 z1 z4 y1 h7 x5 h0 h2 H3 HL HM;generalize s.nx=sx at*;have x3:∀ w5,Fam w0 w5 (QL l i j k q r b (s.clear m sx).2 (s.clear m sx).1)->(∃ x2,w5.cell? ⟨b,3,none⟩=some (.int .i64 ((x2:Nat):Int)))/\w5.frozen? ⟨b,3,none⟩=false/\Calls prog 76 #[.pointer (some ⟨b,0,none⟩),.pointer (some ⟨r,0,none⟩)] (w5.setCell ⟨b,3,none⟩ (.int .i64 ((sx:Int)+1))) (fun e w'=>e=.returned (.tuple #[])/\Fam w0 w' (QL l i j k q r b (s.clear m sx).2 (((s.clear m sx).1.at s.ph (sx+1)).settle (s.clear m sx).2))):=fun w5 y=>by
  obtain ⟨_,_,_,_,_,y4⟩:=QL.tr T3 y;have d:=QL.aOt T3 y (sx+1) (sx+1) (aAI.self _);rw [x8.o] at d;have e1:((sx+1:Nat):Int)=(sx:Int)+1:=by omega
  have c:=iD _ T3 d x7.o x9.o;rw [e1] at c;exact ⟨⟨_,y4.cells.2.2.2.1⟩,y4.cells.2.2.2.2.2 3,c⟩
 have iG:=aA x3;clear x3 x7 x8 x9;have h5:=x6.o;clear x6;rcases y5 with rfl|rfl|rfl
 ·as_aux_lemma=>
  replace z2:w1.cell? ⟨b,2,none⟩=some (.int .i64 1):=z2;replace cl:Calls prog 152 #[.pointer (some ⟨b,0,none⟩),.int .i64 1,.int .i64 (nx:Int)] w1 _:=cl;clear x1;go_wp2_with fail;go_fit cl;rintro e _ ⟨rfl,rfl⟩;clear cl z2 z3;go_wp2_with fail;go_fit h5;rintro e w5 ⟨rfl,y⟩;obtain ⟨⟨x2,y3⟩,h9,cs⟩:=iG.o w5 y;clear h5 y iG;go_wp2_with fail;go_fit cs;rintro e w6 ⟨rfl,d⟩;have h8:=aA d;clear cs d y3 h9;go_wp2;refine bodyPost_ret (results_tmp3 rfl _ _ _) rfl ?_;have hs:=x4.o;rw [<-hs] at hR;have h6:=h8.o;rw [<-hs] at h6;exact hR.o _ _ ⟨rfl,h6⟩
 ·as_aux_lemma=>
  replace z2:w1.cell? ⟨b,2,none⟩=some (.int .i64 2):=z2;replace cl:Calls prog 152 #[.pointer (some ⟨b,0,none⟩),.int .i64 2,.int .i64 (nx:Int)] w1 _:=cl;clear x1;go_wp2_with fail;go_fit cl;rintro e _ ⟨rfl,rfl⟩;clear cl z2 z3;go_wp2_with fail;go_fit h5;rintro e w5 ⟨rfl,y⟩;obtain ⟨⟨x2,y3⟩,h9,cs⟩:=iG.o w5 y;clear h5 y iG;go_wp2_with fail;go_fit cs;rintro e w6 ⟨rfl,d⟩;have h8:=aA d;clear cs d y3 h9;go_wp2;refine bodyPost_ret (results_tmp3 rfl _ _ _) rfl ?_;have hs:=x4.o;rw [<-hs] at hR;have h6:=h8.o;rw [<-hs] at h6;exact hR.o _ _ ⟨rfl,h6⟩
 ·as_aux_lemma=>
  replace z2:w1.cell? ⟨b,2,none⟩=some (.int .i64 4):=z2;replace cl:Calls prog 152 #[.pointer (some ⟨b,0,none⟩),.int .i64 3,.int .i64 (nx:Int)] w1 _:=cl;clear x1;go_wp2_with fail;go_fit cl;rintro e _ ⟨rfl,rfl⟩;clear cl z2 z3;go_wp2_with fail;go_fit h5;rintro e w5 ⟨rfl,y⟩;obtain ⟨⟨x2,y3⟩,h9,cs⟩:=iG.o w5 y;clear h5 y iG;go_wp2_with fail;go_fit cs;rintro e w6 ⟨rfl,d⟩;have h8:=aA d;clear cs d y3 h9;go_wp2;refine bodyPost_ret (results_tmp3 rfl _ _ _) rfl ?_;have hs:=x4.o;rw [<-hs] at hR;have h6:=h8.o;rw [<-hs] at h6;exact hR.o _ _ ⟨rfl,h6⟩
theorem aGJ (w:World) (y:Three l i j k) (z:Fam w0 w (QL l i j k q r b m t)) (d:t.Good m) (hm:m.Ok):Calls prog 69 #[.pointer (some ⟨b,0,none⟩),.pointer (some ⟨r,0,none⟩)] w (fun e w'=>e=.returned (.tuple #[.int .i64 (t.step m).1,.int .i64 (t.step m).2.1,.int .i64 (t.step m).2.2.1])/\Fam w0 w' (QL l i j k q r b (t.step m).2.2.2.2 (t.step m).2.2.2.1)):=by
 by_cases hp:t.ph=0
 ·exact aMg w y z d hm hp
 by_cases h3:(t.settle m).ph=3
 ·exact aMf w y z d hm hp h3
 by_cases hl:(t.settle m).ents.length<=(t.settle m).nx
 ·exact aEv w y z d hm hp h3 hl
 exact aJq w y z d hm hp h3 hl
end
section
variable {w0 w w':World} {l:List Asn} {b:Nat} {c:Co} {x:GX5} {i:Nat} {m:Mk} {t:Tb}
theorem GoA.open (h:Fam w0 w l) (y:l[i]?=some (GoA b c)):∃ x:GX5,x.ok c/\Fam w0 w (G5 b c x ++ l.set i NoA):=h.aQg y
theorem GoA.close (hx:x.ok c) (h:Fam w0 w (G5 b c x ++ l.set i NoA)) (y:i<l.length):Fam w0 w (l.set i (GoA b c)):=by
 have:=h.aKX (P:=fun x=>GX5.ok x c) (F:=G5 b c) x hx rfl (aKA y);rwa [aJj] at this
theorem GoA.born (hx:x.ok c) (h:Fam w0 w (G5 b c x ++ l)):Fam w0 w (l ++ [GoA b c]):=h.aNZ (P:=fun x=>GX5.ok x c) (F:=G5 b c) x hx rfl
theorem G5.t2:gZ (G5 b c x ++ l) 0 1:=⟨by simp [G5],by simp [G5],by decide⟩
theorem G5.t3:Three (G5 b c x ++ l) 0 1 2:=⟨G5.t2,by simp [G5],by decide,by decide⟩
theorem G5.rl (y:x.on=true):RL (G5 b c x ++ l) 0 1 x.q x.r m=G5 b (c.pU m) x ++ l:=by
 obtain ⟨q,r,e,sv,d,z⟩:=x
 cases y
 rfl
theorem G5.ql (y:x.on=true):QL (G5 b c x ++ l) 0 1 2 x.q x.r x.ub m t=G5 b ((c.pU m).eU t) x ++ l:=by
 obtain ⟨q,r,e,sv,d,z⟩:=x
 cases y
 rfl
theorem G5.toR (y:x.on=true) (h:Fam w0 w (G5 b c x ++ l)):Fam w0 w (RL (G5 b c x ++ l) 0 1 x.q x.r c.m):=by rw [G5.rl y];exact h
theorem G5.toQ (y:x.on=true) (h:Fam w0 w (G5 b c x ++ l)):Fam w0 w (QL (G5 b c x ++ l) 0 1 2 x.q x.r x.ub c.m c.t):=by rw [G5.ql y];exact h
theorem G5.row (h:Fam w0 w (G5 b c x ++ l)):Row w b 99 (bC b c x):=h.row 4 rfl
theorem G5.gh (h:Fam w0 w (G5 b c x ++ l)):c.m.M.Ok/\∃ L X,bJ w L x.q c.m.M X:=h.gh 0 rfl
theorem G5.sw (h:Fam w0 w (G5 b c x ++ l)):aN w 0 x.sv c.sw:=h.ints 3 rfl
theorem G5.tr (h:Fam w0 w (G5 b c x ++ l)):∃ y z d nx wl,lC w x.ub y z d nx wl c.t:=by
 obtain ⟨S,⟨y,z,d,nx,wl,e,_⟩,_⟩:=h.get 2 rfl;exact ⟨y,z,d,nx,wl,e⟩
theorem bC.cells (h:Fam w0 w (G5 b c x ++ l)):w.cell? ⟨b,0,none⟩=some (.pointer (some ⟨x.q,0,none⟩))/\w.cell? ⟨b,1,none⟩=some (.pointer (some ⟨x.ub,0,none⟩))/\w.cell? ⟨b,2,none⟩=some (.pointer (if x.on then some ⟨x.r,0,none⟩ else none))/\w.cell? ⟨b,3,none⟩=some (.int .i64 (c.ph:Int))/\w.cell? ⟨b,4,none⟩=some (.int .i64 c.cr)/\w.cell? ⟨b,5,none⟩=some (.int .i64 c.rate)/\w.cell? ⟨b,6,none⟩=some (.int .i64 (c.pages:Int))/\w.cell? ⟨b,7,none⟩=some (.int .i64 (x.mv:Int))/\w.cell? ⟨b,8,none⟩=some x.sv/\∀ k,w.frozen? ⟨b,k,none⟩=false:=by
 have r:=G5.row h;exact ⟨r.cell 0 rfl,r.cell 1 rfl,r.cell 2 rfl,r.cell 3 rfl,r.cell 4 rfl,r.cell 5 rfl,r.cell 6 rfl,r.cell 7 rfl,r.cell 8 rfl,fun k=>r.free k⟩
theorem G5.m2 (y:x.on=true) (h:Fam w0 w (G5 b c x ++ l)):w.cell? ⟨b,2,none⟩=some (.pointer (some ⟨x.r,0,none⟩)):=by
 have:=(bC.cells h).2.2.1;rw [y] at this;exact this
theorem G5.tY (y:Fam w0 w (G5 b c x ++ l)) (n:Nat):Fam w0 (w.setCell ⟨b,3,none⟩ (.int .i64 (n:Int))) (G5 b { c with ph:=n } x ++ l):=y.bW 4 rfl 3 _
theorem G5.aEt (y:Fam w0 w (G5 b c x ++ l)) (n:Int):Fam w0 (w.setCell ⟨b,4,none⟩ (.int .i64 n)) (G5 b { c with cr:=n } x ++ l):=y.bW 4 rfl 4 _
theorem G5.aMd (y:Fam w0 w (G5 b c x ++ l)) (n:Nat):Fam w0 (w.setCell ⟨b,7,none⟩ (.int .i64 (n:Int))) (G5 b c { x with mv:=n } ++ l):=y.bW 4 rfl 7 _
theorem G5.aGH {d:World} (hf:Fam w0 w (G5 b c x ++ l)) (ho:Only [] w d) {v:Value} {s:List Int} (hi:aN d w.heap.size v s):Fam w0 (d.setCell ⟨b,8,none⟩ v) (G5 b { c with sw:=s } { x with sv:=v } ++ l):=by
 have h1:Fam w0 d ((G5 b c x ++ l) ++ [bT v s]):=hf.gY ho hi;have h2:=h1.bW 4 rfl 8 v;have h0:(G5 b c x ++ l).length=5+l.length:=by rw [List.length_append];rfl
 refine h2.selC (fun k=>if k=3 then 5+l.length else k) (fun k A hk=>?_) (fun j k hj hk hne=>?_)
 ·by_cases e:k=3
  ·rw [if_pos e];subst e;have z:A=bT v s:=by
    have h3:(G5 b { c with sw:=s } { x with sv:=v } ++ l)[3]?=some (bT v s):=rfl;rw [h3] at hk;exact (Option.some.inj hk).symm
   rw [z,List.getElem?_set_ne (by omega),List.getElem?_append_right (by omega),show 5+l.length - (G5 b c x ++ l).length=0 by omega];rfl
  rw [if_neg e];have h4:=(List.getElem?_eq_some_iff.1 hk).1;have y:(G5 b { c with sw:=s } { x with sv:=v } ++ l).length=5+l.length:=by rw [List.length_append];rfl
  by_cases e4:k=4
  ·subst e4;have h3:(G5 b { c with sw:=s } { x with sv:=v } ++ l)[4]?=some (eY b 99 (bC b { c with sw:=s } { x with sv:=v })):=rfl;rw [h3] at hk;rw [<-Option.some.inj hk];rw [List.getElem?_set_self (by rw [List.length_append,h0];omega)];rfl
  rw [List.getElem?_set_ne (fun e=>e4 e.symm),List.getElem?_append_left (by omega)];rw [<-hk]
  match k,e,e4 with
  | 0,_,_=>rfl
  | 1,_,_=>rfl
  | 2,_,_=>rfl
  | k+5,_,_=>rfl
 have y:(G5 b { c with sw:=s } { x with sv:=v } ++ l).length=5+l.length:=by rw [List.length_append];rfl
 rw [y] at hj hk
 by_cases e:j=3
 ·rw [if_pos e]
  by_cases z:k=3
  ·omega
  rw [if_neg z];omega
 rw [if_neg e]
 by_cases z:k=3
 ·rw [if_pos z];omega
 rw [if_neg z];exact hne
def pR (w0:World) (l:List Asn) (b:Nat) (r:Int×Co) (e:Ending) (w':World):Prop:=e=.returned (.int .i64 r.1)/\∃ y:GX5,y.ok r.2/\Fam w0 w' (G5 b r.2 y ++ l)
theorem aBY (w:World) (y:Fam w0 w (G5 b c x ++ l)) (h:Int):Calls prog 222 #[.pointer (some ⟨b,0,none⟩),.int .i64 h] w (fun e w'=>e=.returned (.int .i64 (c.m.M.len h))/\Only [] w w'):=by
 refine aF fun R d=>?_;obtain ⟨x0,_⟩:=bC.cells y;obtain ⟨hk,L,X,hp⟩:=G5.gh y;have z:=aDy w hp hk h;unfold Hp.len at d;clear y hk hp;go_in;go_wp2_with fail;go_fit z;rintro e w1 ⟨rfl,ho⟩;have HO:=aA ho;clear z ho;go_wp2;exact d.o _ _ ⟨rfl,HO.o⟩
theorem aDH (w:World) (z:Fam w0 w (G5 b c x ++ l)) (hx:x.ok c) (h:c.Okc) (d:c.ph=1\/c.ph=2):Calls prog 177 #[.pointer (some ⟨b,0,none⟩)] w (pR w0 l b c.mark):=by
 refine aF fun R hR=>?_;have y:x.on=true:=hx.on.trans (dM.2 d);have x2:=G5.m2 y z;have cs:=aDz w (G5.t2 (b:=b) (c:=c) (x:=x) (l:=l)) (G5.toR y z) (h.mo d);rw [G5.rl y] at cs;have HX:=aA hx;have h0:=fG (by have:=(h.mo d).hf.ok;rw [<-Mk.nM (m:=c.m)] at this;exact this:c.m.step.2.2.M.Ok) c.m.step.1;have HR:Hid (∀ w',Fam w0 w' (G5 b (c.pU c.m.step.2.2) x ++ l)->R (.returned (.int .i64 (1+c.m.step.2.2.M.len c.m.step.1))) w'):=fun w' h=>hR.o _ _ ⟨by show _=Ending.returned (.int .i64 (1+c.m.M.len c.m.step.1));rw [<-Mk.nM (m:=c.m)],x,⟨hx.on,hx.mv,hx.m0,hx.mv2⟩,h⟩;clear hR z hx h d y;go_in;go_wp2_with fail;go_fit cs;rintro e w2 ⟨rfl,z⟩;have F2:=aA z;have cl:=aBY w2 F2.o c.m.step.1;replace cl:Calls prog 222 #[.pointer (some ⟨b,0,none⟩),.int .i64 c.m.step.1] w2 (fun e w'=>e=.returned (.int .i64 (c.m.step.2.2.M.len c.m.step.1))/\Only [] w2 w'):=cl;clear cs z x2;generalize c.m.step.2.2.M.len c.m.step.1=n at*;go_wp2_with fail;go_fit cl;rintro e w3 ⟨rfl,ho⟩;have F3:=aA (F2.o.aK ho);clear cl F2 ho;go_wp2_with fail;exact HR.o _ F3.o
def Co.gone (c:Co) (h:Int):Bool:=!(c.m.M.ob h).isSome || c.hid h
theorem sQ (w:World) (hf:Fam w0 w (G5 b c x ++ l)) (hx:x.ok c) (h:c.Okc) (y:Int):Calls prog 175 #[.pointer (some ⟨b,0,none⟩),.int .i64 y] w (fun e w'=>e=.returned (.bool (c.gone y))/\Only [] w w'):=by
 refine aF fun R d=>?_;obtain ⟨x0,_,_,x3,_⟩:=bC.cells hf;obtain ⟨hk,L,X,hp⟩:=G5.gh hf;have cl:=jT w hp hk y;unfold Co.gone at d
 cases hu:(c.m.M.ob y).isSome with
 | false=>
  rw [hu] at cl d;replace d:Hid (∀ e w',e=.returned (.bool true)/\Only [] w w'->R e w'):=d;clear hf hx h hk hp hu;go_in;go_wp2_with fail;go_fit cl;rintro e w1 ⟨rfl,ho⟩;have HO:=aA ho;clear cl ho;go_wp2;exact d.o _ _ ⟨rfl,HO.o⟩
 | true=>
  rw [hu] at cl d;replace d:Hid (∀ e w',e=.returned (.bool (c.hid y))/\Only [] w w'->R e w'):=d;have hy:=hk.inR hu;unfold Co.hid at d
  by_cases h0:c.ph=2
  ·rw [if_pos h0] at d;have hw:c.m.isW y=decide (c.m.col y=0):=by unfold Mk.isW;rw [hu];rfl
   rw [hw] at d;have h7:x.on=true:=hx.on.trans (dM.2 (.inr h0));have HF:=aA hf;have x1:=aA ((h.mo (.inr h0)).rg y);have h5:=aA h7;rw [h0] at x3;clear hx h hk hp hu hw h7 h0 hf;go_in;go_wp2_with fail;go_fit cl;rintro e w1 ⟨rfl,ho⟩;have h1:=HF.o.aK ho;have z2:=G5.m2 h5.o h1;have z3:=(bC.cells h1).2.2.2.1;have y3:=ho.cell x3 (by simp);obtain ⟨tg,tc,v,T,hg⟩:=RL.mk (G5.t2 (b:=b) (c:=c) (x:=x) (l:=l)) (G5.toR h5.o h1);obtain ⟨U,h4⟩:=hg.row;have k1:=h4.cell 1 rfl;obtain ⟨k,rfl⟩:∃ k:Nat,y=(k:Int):=⟨y.toNat,by omega⟩;have y1:(k:Int)<193:=by omega
   have x6:(0:Int)<=(k:Int):=by omega
   obtain ⟨tb,tq,y0,kt⟩:=hg.tint.read.at (k:=k) (by rw [hg.tl];omega)
   cases y0
   rw [Nat.zero_add,hg.tv k (by omega)] at kt;have HO:=aA ho;clear cl ho h1 hg h4 HF x0 x3 z3;generalize c.m.col (k:Int)=kc at*;have x4:=x1.o;rcases x4 with e0|e0|e0
   all_goals
    rw [e0] at kt d;go_wp2;exact d.o _ _ ⟨rfl,HO.o⟩
  rw [if_neg h0] at d;have hs:=G5.sw hf;have x9:=h.vV;obtain ⟨sa,sc,hv⟩:=hs.len;have x8:=(bC.cells hf).2.2.2.2.2.2.2.2.1;rw [hv] at x8 hs;obtain ⟨n,hn⟩:∃ n,n=c.sw.length:=⟨_,rfl⟩;have HN:=aA hn;rw [<-hn] at x8 hs x9;have HS:=aA hs;have y5:((c.ph:Int) == 2)=false:=by rw [beq_eq_false_iff_ne];omega
  generalize c.ph=ph at*;clear hf hx h hk hp hu hv hs hn h0;go_in;go_wp2_with fail;go_fit cl;rintro e w1 ⟨rfl,ho⟩;have y3:=ho.cell x3 (by simp);have y8:=ho.cell x8 (by simp);have x2:Hid (aN w1 0 (.slice sa n sc) c.sw):=HS.o.only ho (by simp);have HO:=aA ho;clear cl ho x0 x3 x8;go_wp2;go_loopw [5] (fun iv wr=>∃ k:Nat,k<=n/\iv=.int .i64 k/\wr=w1/\Hid (∀ j,j<k->gI c.sw j≠y)) (fun iv _=>n - (intOf iv).toNat)
  case atStart=>exact ⟨0,by omega,rfl,rfl,fun j hj=>by omega⟩
  case round=>as_aux_lemma=>
   obtain ⟨k,y4,rfl,rfl,HB⟩:=hrel
   by_cases x7:k<n
   ·have h8:(k:Int)<(n:Int):=by omega
    have x6:(0:Int)<=(k:Int):=by omega
    have h2:k<c.sw.length:=by rw [<-HN.o];exact x7
    obtain ⟨vb,vo,rfl,x5⟩:=x2.o.read.at h2
    by_cases he:gI c.sw k=y
    ·have h6:decide (y∈c.sw)=true:=decide_eq_true (dX.2 ⟨k,h2,he⟩);rw [h6] at d;rw [he] at x5;clear he h6 h2;go_wp2;exact d.o _ _ ⟨rfl,HO.o⟩
    have y2:(gI c.sw k == y)=false:=by simpa using he
    have h9:Hid (∀ j,j<k+1->gI c.sw j≠y):=fun j hj=>by
     by_cases e:j=k
     ·rw [e];exact he
     exact HB.o j (by omega)
    clear he h2;generalize gI c.sw k=z at*;go_wp2;exact ⟨⟨k+1,by omega,by go_num,by trivial,h9⟩,by simp [intOf];omega⟩
   obtain rfl:k=n:=by omega
   have h8:¬ (k:Int)<(k:Int):=by omega
   have h3:decide (y∈c.sw)=false:=decide_eq_false (fun e=>by
    obtain ⟨j,hj,e2⟩:=dX.1 e;exact HB.o j (by rw [HN.o];exact hj) e2)
   rw [h3] at d;clear h3;go_wp2;exact d.o _ _ ⟨rfl,HO.o⟩
end
section
variable {w0 w w':World} {l:List Asn} {b:Nat} {c:Co} {x:GX5} {i:Nat} {m:Mk} {t:Tb}
theorem Fam.hole (h:Fam w0 w l) (i:Nat):Fam w0 w (l.set i NoA):=by
 obtain ⟨h0,S,h1,h2,h3⟩:=h;refine ⟨h0,fun j=>if j=i then (fun _=>False) else S j,fun j A hj=>?_,fun a b ha hb hab k=>?_,fun j hj k hk=>?_⟩
 ·by_cases e:j=i
  ·simp only [e,if_true];rw [e,List.getElem?_set] at hj;split at hj
   ·split at hj
    ·cases hj;exact fun _ h=>h
    cases hj
   rename_i y;exact absurd rfl y
  simp only [e,if_false];rw [List.getElem?_set_ne (fun x=>e x.symm)] at hj;exact h1 j A hj
 ·rw [List.length_set] at ha hb
  by_cases z:a=i
  ·simp only [z,if_true];exact fun h=>h.elim
  simp only [z,if_false]
  by_cases d:b=i
  ·simp only [d,if_true];exact fun _ h=>h
  simp only [d,if_false];exact h2 a b ha hb hab k
 rw [List.length_set] at hj
 by_cases e:j=i
 ·simp only [e,if_true] at hk
 simp only [e,if_false] at hk;exact h3 j hj k hk
theorem G5.drop (z:Fam w0 w (G5 b c x ++ l)):Fam w0 (w.setCell ⟨b,2,none⟩ (.pointer none)) (G5 b c { x with on:=false } ++ l):=by
 have y:Fam w0 (w.setCell ⟨b,2,none⟩ (.pointer none)) _:=z.bW 4 rfl 2 (.pointer none);exact y.hole 1
theorem uV (w:World) (z:Fam w0 w (G5 b c x ++ l)) (y:x.on=true) (h:c.Okc) (d:c.ph=2):Calls prog 69 #[.pointer (some ⟨x.ub,0,none⟩),.pointer (some ⟨x.r,0,none⟩)] w (fun e w'=>e=.returned (.tuple #[.int .i64 (c.t.step c.m).1,.int .i64 (c.t.step c.m).2.1,.int .i64 (c.t.step c.m).2.2.1])/\Fam w0 w' (G5 b c.stepT x ++ l)):=by
 have:=aGJ w (G5.t3 (b:=b) (c:=c) (x:=x) (l:=l)) (G5.toQ y z) h.tg (h.mo (.inr d));rw [G5.ql y] at this;exact this
theorem G5.p12 (z:x.on=true) (y:Fam w0 w (G5 b c x ++ l)):w.cell? ⟨b,1,none⟩=some (.pointer (some ⟨x.ub,0,none⟩))/\w.cell? ⟨b,2,none⟩=some (.pointer (some ⟨x.r,0,none⟩)):=⟨(bC.cells y).2.1,G5.m2 z y⟩
theorem aLg (y:c.ph=2):c.bar=true:=dM.2 (.inr y)
theorem aMR (w:World) (hf:Fam w0 w (G5 b c x ++ l)) (hx:x.ok c) (h:c.Okc) (hp:c.ph=2) (y:(c.t.step c.m).2.2.1=0):Calls prog 178 #[.pointer (some ⟨b,0,none⟩)] w (pR w0 l b c.refs):=by
 refine aF fun R hR=>?_;have h0:x.on=true:=hx.on.trans (aLg hp);have F0:=aA hf;have z:=aA h0;have HC:Hid (∀ wx,Fam w0 wx (G5 b c x ++ l)->Calls prog 69 #[.pointer (some ⟨x.ub,0,none⟩),.pointer (some ⟨x.r,0,none⟩)] wx (fun e w'=>e=.returned (.tuple #[.int .i64 (c.t.step c.m).1,.int .i64 (c.t.step c.m).2.1,.int .i64 0])/\Fam w0 w' (G5 b c.stepT x ++ l))):=fun wx hx=>by
  have:=uV wx hx h0 h hp;rw [y] at this;exact this
 have h5:=fG (h.stepT hp).1.hf.ok (c.t.step c.m).2.1;have HM:Hid (c.stepT.m.M=c.m.M):=(h.tg.step (h.mo (.inr hp))).2.2.1;have HR:Hid (∀ v w',v=(if (c.t.step c.m).1=3 then 1+c.stepT.m.M.len (c.t.step c.m).2.1 else 1)->Fam w0 w' (G5 b c.stepT x ++ l)->R (.returned (.int .i64 v)) w'):=fun v w' h1 h2=>hR.o _ _ ⟨by rw [h1,HM.o,Co.fV,if_pos y],x,⟨by rw [Co.fV,if_pos y];exact hx.on,by rw [Co.fV,if_pos y];exact hx.mv,by rw [Co.fV,if_pos y];exact hx.m0,hx.mv2⟩,by rw [Co.fV,if_pos y];exact h2⟩;clear hf hx h hp hR h0 y;go_in;go_upto_region 1 with fail;generalize (c.t.step c.m).1=a1 at*;generalize (c.t.step c.m).2.1=a2 at*;go_region_held3 (fun w'=>w'.cell? ⟨b,1,none⟩=some (.pointer (some ⟨x.ub,0,none⟩))/\w'.cell? ⟨b,2,none⟩=some (.pointer (some ⟨x.r,0,none⟩)))
  (first|(exact G5.p12 z.o F0.o.drew)|(exact G5.p12 z.o F0.o)|(exact G5.p12 z.o f3))
  (first|(go_at_call 69;refine (HC.o _ F0.o.drew).mono ?_;rintro e w3 ⟨rfl,f3⟩))
 have F3:=aA f3;clear f3 HC F0;have cl:=aBY w3 F3.o a2
 by_cases h3:a1=3
 ·have d:Hid (∀ w',Fam w0 w' (G5 b c.stepT x ++ l)->R (.returned (.int .i64 (1+c.stepT.m.M.len a2))) w'):=fun w' hf=>HR.o _ w' (by rw [if_pos h3]) hf;subst h3;clear HR HM;generalize c.stepT.m.M.len a2=n at*;go_wp2_with fail;go_fit cl;rintro e w4 ⟨rfl,ho⟩;have F4:=aA (F3.o.aK ho);clear cl ho F3;go_wp2_with fail;exact d.o _ F4.o
 have d:Hid (∀ w',Fam w0 w' (G5 b c.stepT x ++ l)->R (.returned (.int .i64 1)) w'):=fun w' hf=>HR.o _ w' (by rw [if_neg h3]) hf;have h4:(a1 == 3)=false:=by simpa using h3
 clear HR HM cl h3;go_wp2_with fail;exact d.o _ F3.o
theorem aHI (w:World) (hf:Fam w0 w (G5 b c x ++ l)) (hx:x.ok c) (h:c.Okc) (hp:c.ph=2) (he:(c.t.step c.m).2.2.1≠0) (hl:c.stepT.m.list≠[]):Calls prog 178 #[.pointer (some ⟨b,0,none⟩)] w (pR w0 l b c.refs):=by
 refine aF fun R hR=>?_;have h0:x.on=true:=hx.on.trans (aLg hp);have F0:=aA hf;have d:=aA h0;have HC:Hid (∀ y,Fam w0 y (G5 b c x ++ l)->Calls prog 69 #[.pointer (some ⟨x.ub,0,none⟩),.pointer (some ⟨x.r,0,none⟩)] y (fun e w'=>e=.returned (.tuple #[.int .i64 (c.t.step c.m).1,.int .i64 (c.t.step c.m).2.1,.int .i64 (c.t.step c.m).2.2.1])/\Fam w0 w' (G5 b c.stepT x ++ l))):=fun y hx=>uV y hx h0 h hp;have z:c.refs=c.stepT.mark:=by rw [Co.fV,if_neg he];unfold Co.tail;rw [if_neg hl]
 rw [z] at hR;have hk:=(h.stepT hp).1;have HM:Hid (∀ y,Fam w0 y (G5 b c.stepT x ++ l)->Calls prog 177 #[.pointer (some ⟨b,0,none⟩)] y (pR w0 l b c.stepT.mark)):=fun y hwx=>aDH y hwx ⟨hx.on,hx.mv,hx.m0,hx.mv2⟩ hk (.inr hp);have HD:Hid (∀ y,Fam w0 y (G5 b c.stepT x ++ l)->Calls prog 71 #[.pointer (some ⟨x.r,0,none⟩)] y (aO y (.bool false))):=fun y hwx=>by
  have:=kF y (G5.t2 (b:=b) (c:=c.stepT) (x:=x) (l:=l)) (G5.toR h0 hwx);rw [decide_eq_false hl] at this;exact this
 have h1:((c.t.step c.m).2.2.1 == 0)=false:=by simpa using he
 clear hf hx h hp h0 he hl z hk;go_in;go_upto_region 1 with fail;generalize (c.t.step c.m).1=a1 at*;generalize (c.t.step c.m).2.1=a2 at*;generalize (c.t.step c.m).2.2.1=a3 at*;go_region_held3 (fun w'=>w'.cell? ⟨b,1,none⟩=some (.pointer (some ⟨x.ub,0,none⟩))/\w'.cell? ⟨b,2,none⟩=some (.pointer (some ⟨x.r,0,none⟩)))
  (first|(exact G5.p12 d.o F0.o.drew)|(exact G5.p12 d.o F0.o)|(exact G5.p12 d.o f3))
  (first|(go_at_call 69;refine (HC.o _ F0.o.drew).mono ?_;rintro e w3 ⟨rfl,f3⟩))
 have cd:=HD.o w3 f3;have cm:=HM.o w3 f3;have z2:=G5.m2 d.o f3;clear f3 HC F0 HD HM;go_wp2_with fail;go_fit cd;rintro e _ ⟨rfl,rfl⟩;clear cd;go_wp2_with fail;go_fit cm;rintro e w4 ⟨rfl,hd⟩;have HE:=aA hd;clear cm hd z2;go_wp2;exact hR.o _ _ ⟨rfl,HE.o⟩
theorem aDJ (w:World) (z:Fam w0 w (G5 b c x ++ l)) (h s v:Int):Calls prog 144 #[.pointer (some ⟨x.q,0,none⟩),.int .i64 h,.int .i64 s,.int .i64 v] w (fun e w'=>e=.returned (.int .i64 (c.m.M.set h s v).1)/\Fam w0 w' (G5 b (c.pU (c.m.put (c.m.M.set h s v).2)) x ++ l)):=
 z.aDA 0 rfl (M':=(c.m.M.set h s v).2) (fun y=>y.set h s v) (fun L X hr y=>aGd w hr y h s v)
theorem G5.s3 (hf:Fam w0 w (G5 b c x ++ l)) {va:Option Addr} {n vc k:Nat} (hv:x.sv=.slice va n vc) (hk:k<c.sw.length):∃ z d,va=some ⟨z,d,none⟩/\w.cell? ⟨b,0,none⟩=some (.pointer (some ⟨x.q,0,none⟩))/\w.cell? ⟨b,8,none⟩=some (.slice (some ⟨z,d,none⟩) n vc)/\w.cell? ⟨z,d+k,none⟩=some (.int .i64 (gI c.sw k)):=by
 have hs:=G5.sw hf;rw [hv] at hs;obtain ⟨z,d,e,hc⟩:=hs.read.at hk;have y:=bC.cells hf;rw [hv,e] at y;exact ⟨z,d,e,y.1,y.2.2.2.2.2.2.2.2.1,hc⟩
theorem G5.s3b (hf:Fam w0 w (G5 b c x ++ l)) {y z n d k:Nat} (hv:x.sv=.slice (some ⟨y,z,none⟩) n d) (hk:k<c.sw.length):w.cell? ⟨b,0,none⟩=some (.pointer (some ⟨x.q,0,none⟩))/\w.cell? ⟨b,8,none⟩=some (.slice (some ⟨y,z,none⟩) n d)/\w.cell? ⟨y,z+k,none⟩=some (.int .i64 (gI c.sw k)):=by
 obtain ⟨h0,h1,e,h⟩:=G5.s3 hf hv hk
 cases e
 exact h
def Co.swp (c:Co) (s:List Int) (k:Nat):Co:={ c with sw:=s,m:=c.m.put (c.m.M.bK s k) }
def Co.aIP (c:Co) (s:List Int) (k j:Nat):Co:={ c with sw:=s,m:=c.m.put ((c.m.M.bK s k).bI (gI s k) j) }
theorem aFa (w:World) (hf:Fam w0 w (G5 b c x ++ l)) (hx:x.ok c) (h:c.Okc) (hp:c.ph=2) (he:(c.t.step c.m).2.2.1≠0) (hl:c.stepT.m.list=[]):Calls prog 178 #[.pointer (some ⟨b,0,none⟩)] w (pR w0 l b c.refs):=by
 refine aF fun R hR=>?_;have h3:x.on=true:=hx.on.trans (aLg hp);have F0:=aA hf;have h5:=aA h3;have HC:Hid (∀ z,Fam w0 z (G5 b c x ++ l)->Calls prog 69 #[.pointer (some ⟨x.ub,0,none⟩),.pointer (some ⟨x.r,0,none⟩)] z (fun e w'=>e=.returned (.tuple #[.int .i64 (c.t.step c.m).1,.int .i64 (c.t.step c.m).2.1,.int .i64 (c.t.step c.m).2.2.1])/\Fam w0 w' (G5 b c.stepT x ++ l))):=fun z hx=>uV z hx h3 h hp;obtain ⟨s,hs⟩:∃ s,s=c.stepT.m.white:=⟨_,rfl⟩;have y4:s.length<=192:=by rw [hs];exact xJ c.stepT.m
 have h4:c.refs=c.stepT.fC s:=by rw [Co.fV,if_neg he];unfold Co.tail;rw [if_pos hl,hs];rfl
 rw [h4] at hR;have x2:=(h.stepT hp).1;have HK:Hid (∀ k,(c.stepT.m.M.bK s k).Ok):=fun k=>(nH x2.hf s k).1.ok;have HD:Hid (∀ z,Fam w0 z (G5 b c.stepT x ++ l)->Calls prog 71 #[.pointer (some ⟨x.r,0,none⟩)] z (aO z (.bool true))):=fun z hwx=>by
  have:=kF z (G5.t2 (b:=b) (c:=c.stepT) (x:=x) (l:=l)) (G5.toR h3 hwx);rw [decide_eq_true hl] at this;exact this
 have HW:Hid (∀ z,Fam w0 z (G5 b c.stepT x ++ l)->Calls prog 223 #[.pointer (some ⟨x.r,0,none⟩)] z (aOb z s)):=fun z hwx=>by
  have:=aHF z (G5.t2 (b:=b) (c:=c.stepT) (x:=x) (l:=l)) (G5.toR h3 hwx);rw [hs];exact this
 have x1:=hx.mv2;have x3:x.mv=0:=hx.m0 (by omega) (by omega);have HR:Hid (∀ w' v,Fam w0 w' (G5 b (c.stepT.fC s).2 { x with sv:=v,on:=false } ++ l)->R (.returned (.int .i64 1)) w'):=fun w' v h2=>hR.o _ _ ⟨rfl,{ x with sv:=v,on:=false },⟨by show false=decide _;simp [Co.fC],fun e=>by (cases e),fun _ _=>x3,x1⟩,h2⟩;have y6:((c.t.step c.m).2.2.1 == 0)=false:=by simpa using he
 clear hf hx h hp h3 he hl h4 hs x2 x1 x3 hR;go_in;go_upto_region 1 with fail;generalize (c.t.step c.m).1=a1 at*;generalize (c.t.step c.m).2.1=a2 at*;generalize (c.t.step c.m).2.2.1=a3 at*;go_region_held3 (fun w'=>w'.cell? ⟨b,1,none⟩=some (.pointer (some ⟨x.ub,0,none⟩))/\w'.cell? ⟨b,2,none⟩=some (.pointer (some ⟨x.r,0,none⟩)))
  (first|(exact G5.p12 h5.o F0.o.drew)|(exact G5.p12 h5.o F0.o)|(exact G5.p12 h5.o f3))
  (first|(go_at_call 69;refine (HC.o _ F0.o.drew).mono ?_;rintro e w3 ⟨rfl,f3⟩))
 have F3:=aA f3;have cd:=HD.o w3 f3;have cw:=HW.o w3 f3;have z2:=G5.m2 h5.o f3;clear f3 HC F0 HD HW;generalize c.stepT=d at*;go_wp2_with fail;go_fit cd;rintro e _ ⟨rfl,rfl⟩;clear cd;go_wp2_with fail;go_fit cw;rintro e w4 ⟨v,rfl,hi,ho⟩;have y5:=(bC.cells (F3.o.aK ho)).2.2.2.2.2.2.2.2.2 8;have y8:=(bC.cells (F3.o.aK ho)).2.2.2.2.2.2.2.2.1;have F4:Hid (Fam w0 (w4.setCell ⟨b,8,none⟩ v) (G5 b (d.swp s 0) { x with sv:=v } ++ l)):=G5.aGH F3.o ho hi;obtain ⟨va,vc,hv⟩:=hi.len;subst hv;clear hi ho cw z2 F3;obtain ⟨n,hn⟩:∃ n,n=s.length:=⟨_,rfl⟩;have HN:=aA hn;rw [<-hn] at F4 y4 ⊢;clear hn;go_upto_region 9 with fail;generalize w4.setCell ⟨b,8,none⟩ (.slice va n vc)=w5 at*;clear y5 y8;go_wp2;go_loopw [6] (fun iv wr=>∃ k:Nat,k<=n/\iv=.int .i64 k/\Fam w0 wr (G5 b (d.swp s k) { x with sv:=.slice va n vc } ++ l)) (fun iv _=>n - (intOf iv).toNat)
 case atStart=>exact ⟨0,by omega,rfl,F4.o⟩
 case round=>as_aux_lemma=>
  clear F4;obtain ⟨k,hk,rfl,hf⟩:=hrel
  by_cases y0:k<n
  ·have x4:(k:Int)<(n:Int):=by omega
   have y9:(0:Int)<=(k:Int):=by omega
   have h6:k<s.length:=by rw [<-HN.o];exact y0
   have x6:=aA h6;have F6:=aA hf;obtain ⟨vb,vo,rfl,x0,x8,xe⟩:=G5.s3 hf (x:={ x with sv:=.slice va n vc }) rfl h6;replace xe:wr.cell? ⟨vb,vo+k,none⟩=some (.int .i64 (gI s k)):=xe;have cl:=aBY wr hf (gI s k);replace cl:Calls prog 222 #[.pointer (some ⟨b,0,none⟩),.int .i64 (gI s k)] wr (fun e w'=>e=.returned (.int .i64 ((d.m.M.bK s k).len (gI s k)))/\Only [] wr w'):=cl;have x9:=fG (HK.o k) (gI s k);obtain ⟨ln,h7⟩:∃ ln:Nat,(d.m.M.bK s k).len (gI s k)=(ln:Int):=⟨((d.m.M.bK s k).len (gI s k)).toNat,by omega⟩;have HB:Hid (d.aIP s k ln=d.swp s (k+1)):=by
    show _=_;unfold Co.aIP Co.swp;show _={ d with sw:=s,m:=d.m.put ((d.m.M.bK s k).blank (gI s k)) };unfold Hp.blank;rw [h7];rfl
   rw [h7] at cl x9;clear h7 h6 hf;obtain ⟨y,hy⟩:∃ y,y=gI s k:=⟨_,rfl⟩;have HY:=aA hy;rw [<-hy] at cl xe;clear hy;go_wp2_with fail;go_fit cl;rintro e w6 ⟨rfl,ho⟩;have F7:Hid (Fam w0 w6 (G5 b (d.aIP s k 0) { x with sv:=.slice (some ⟨vb,vo,none⟩) n vc } ++ l)):=F6.o.aK ho;clear cl ho x0 x8 xe F6;go_wp2;go_loopw [8] (fun iv wr=>∃ j:Nat,j<=ln/\iv=.int .i64 j/\Fam w0 wr (G5 b (d.aIP s k j) { x with sv:=.slice (some ⟨vb,vo,none⟩) n vc } ++ l)) (fun iv _=>ln - (intOf iv).toNat)
   case atStart=>exact ⟨0,by omega,rfl,F7.o⟩
   case round=>as_aux_lemma=>
    clear F7;obtain ⟨j,hj,rfl,hf⟩:=hrel
    by_cases z0:j<ln
    ·have x7:(j:Int)<(ln:Int):=by omega
     have y7:(0:Int)<=(j:Int):=by omega
     have F8:=aA hf;obtain ⟨h8,L,X,h9⟩:=G5.gh hf;have HS:Hid (∀ z (m':Mk),Fam w0 z (G5 b { d with sw:=s,m:=m' } { x with sv:=.slice (some ⟨vb,vo,none⟩) n vc } ++ l)->z.cell? ⟨b,0,none⟩=some (.pointer (some ⟨x.q,0,none⟩))/\z.cell? ⟨b,8,none⟩=some (.slice (some ⟨vb,vo,none⟩) n vc)/\z.cell? ⟨vb,vo+k,none⟩=some (.int .i64 y)):=fun z m' hwx=>by
      have:=G5.s3b hwx (x:={ x with sv:=.slice (some ⟨vb,vo,none⟩) n vc }) rfl x6.o;rw [HY.o];exact this
     have C1:Hid (∀ z,Fam w0 z (G5 b (d.aIP s k j) { x with sv:=.slice (some ⟨vb,vo,none⟩) n vc } ++ l)->Calls prog 176 #[.pointer (some ⟨x.q,0,none⟩),.int .i64 y,.int .i64 (j:Int)] z (aO z (.tuple #[.bool (((d.m.M.bK s k).bI (gI s k) j).isRef y (j:Int)).1,.int .i64 (((d.m.M.bK s k).bI (gI s k) j).isRef y (j:Int)).2]))):=fun z hwx=>by
      obtain ⟨h8,L,X,h9⟩:=G5.gh hwx;exact uY z h9 h8 y (j:Int)
     have C2:Hid (∀ z,Fam w0 z (G5 b (d.aIP s k j) { x with sv:=.slice (some ⟨vb,vo,none⟩) n vc } ++ l)->Calls prog 144 #[.pointer (some ⟨x.q,0,none⟩),.int .i64 y,.int .i64 (j:Int),.int .i64 0] z (fun e w'=>e=.returned (.int .i64 (((d.m.M.bK s k).bI (gI s k) j).set y (j:Int) 0).1)/\Fam w0 w' (G5 b { d with sw:=s,m:=d.m.put (((d.m.M.bK s k).bI (gI s k) j).set y (j:Int) 0).2 } { x with sv:=.slice (some ⟨vb,vo,none⟩) n vc } ++ l))):=fun z hwx=>aDJ z hwx y (j:Int) 0;have h1:Hid ((d.m.M.bK s k).bI (gI s k) (j+1)=if (((d.m.M.bK s k).bI (gI s k) j).isRef (gI s k) (j:Int)).1=true then (((d.m.M.bK s k).bI (gI s k) j).set (gI s k) (j:Int) 0).2 else (d.m.M.bK s k).bI (gI s k) j):=rfl;rw [<-HY.o] at h1 C1 C2;clear hf h8 h9
     cases hr:(((d.m.M.bK s k).bI y j).isRef y (j:Int)).1 with
     | true=>
      rw [hr] at C1;have h0:Hid (∀ z,Fam w0 z (G5 b { d with sw:=s,m:=d.m.put (((d.m.M.bK s k).bI y j).set y (j:Int) 0).2 } { x with sv:=.slice (some ⟨vb,vo,none⟩) n vc } ++ l)->Fam w0 z (G5 b (d.aIP s k (j+1)) { x with sv:=.slice (some ⟨vb,vo,none⟩) n vc } ++ l)):=fun z hwx=>by
       unfold Co.aIP;rw [<-HY.o,h1.o,if_pos hr];exact hwx
      clear h1 hr;generalize (((d.m.M.bK s k).bI y j).isRef y (j:Int)).2=y1 at*;generalize (((d.m.M.bK s k).bI y j).set y (j:Int) 0).1=y2 at*;go_upto_region 16 with fail;go_region_held3 (fun w'=>w'.cell? ⟨b,0,none⟩=some (.pointer (some ⟨x.q,0,none⟩))/\w'.cell? ⟨b,8,none⟩=some (.slice (some ⟨vb,vo,none⟩) n vc)/\w'.cell? ⟨vb,vo+k,none⟩=some (.int .i64 y))
       (first|(exact HS.o _ _ F8.o)|(exact HS.o _ _ F8.o.drew))
       (first|(go_at_call 176;refine (C1.o _ F8.o.drew).mono ?_;rintro e _ ⟨rfl,rfl⟩))
      have F9:=aA F8.o.drew;generalize wr.drew=w8 at*;clear C1 F8;go_upto_region 18 with fail;go_region_held3 (fun w'=>w'.cell? ⟨b,0,none⟩=some (.pointer (some ⟨x.q,0,none⟩))/\w'.cell? ⟨b,8,none⟩=some (.slice (some ⟨vb,vo,none⟩) n vc)/\w'.cell? ⟨vb,vo+k,none⟩=some (.int .i64 y))
       (first|(exact HS.o _ _ F9.o)|(exact HS.o _ _ F9.o.drew)|(exact HS.o _ _ f9))
       (first|(go_at_call 144;refine (C2.o _ F9.o.drew).mono ?_;rintro e w9 ⟨rfl,f9⟩))
      have x5:=aA (h0.o _ f9);clear f9 C2 F9 h0 HS;go_wp2;exact ⟨⟨j+1,by omega,by go_num,x5.o⟩,by simp [intOf];omega⟩
     | false=>
      rw [hr] at C1;have h0:Hid (∀ z,Fam w0 z (G5 b (d.aIP s k j) { x with sv:=.slice (some ⟨vb,vo,none⟩) n vc } ++ l)->Fam w0 z (G5 b (d.aIP s k (j+1)) { x with sv:=.slice (some ⟨vb,vo,none⟩) n vc } ++ l)):=fun z hwx=>by
       unfold Co.aIP at hwx ⊢;rw [<-HY.o] at hwx ⊢;rw [h1.o,if_neg (by rw [hr];decide)];exact hwx
      clear h1 hr C2;generalize (((d.m.M.bK s k).bI y j).isRef y (j:Int)).2=y1 at*;go_upto_region 16 with fail;go_region_held3 (fun w'=>w'.cell? ⟨b,0,none⟩=some (.pointer (some ⟨x.q,0,none⟩))/\w'.cell? ⟨b,8,none⟩=some (.slice (some ⟨vb,vo,none⟩) n vc)/\w'.cell? ⟨vb,vo+k,none⟩=some (.int .i64 y))
       (first|(exact HS.o _ _ F8.o)|(exact HS.o _ _ F8.o.drew))
       (first|(go_at_call 176;refine (C1.o _ F8.o.drew).mono ?_;rintro e _ ⟨rfl,rfl⟩))
      have F9:=aA (h0.o _ F8.o.drew);generalize wr.drew=w8 at*;clear C1 F8 h0 HS;go_wp2;exact ⟨⟨j+1,by omega,by go_num,F9.o⟩,by simp [intOf];omega⟩
    obtain rfl:j=ln:=by omega
    have x7:¬ (j:Int)<(j:Int):=by omega
    rw [HB.o] at hf;have F8:=aA hf;clear hf HB;go_wp2;exact ⟨⟨k+1,by omega,by go_num,F8.o⟩,by simp [intOf];omega⟩
  obtain rfl:k=n:=by omega
  have x4:¬ (k:Int)<(k:Int):=by omega
  have F6:=aA hf;have y2:=(bC.cells hf).2.2.1;have y8:=(bC.cells hf).2.2.2.2.2.2.2.2.1;have z1:=(bC.cells hf).2.2.2.2.2.2.2.2.2 2;have F7:Hid (Fam w0 (wr.setCell ⟨b,2,none⟩ (.pointer none)) (G5 b (d.swp s k) { x with sv:=.slice va k vc,on:=false } ++ l)):=G5.drop hf;have z3:=(bC.cells F7.o).2.2.2.2.2.2.2.2.2 3;have y3:=(bC.cells F7.o).2.2.2.1;have F8:Hid (Fam w0 ((wr.setCell ⟨b,2,none⟩ (.pointer none)).setCell ⟨b,3,none⟩ (.int .i64 3)) (G5 b (d.fC s).2 { x with sv:=.slice va k vc,on:=false } ++ l)):=by
   have:=G5.tY F7.o 3;rw [HN.o] at this ⊢;exact this
  clear hf F6;go_wp2;exact HR.o _ _ F8.o
theorem aKo (w:World) (z:Fam w0 w (G5 b c x ++ l)) (hx:x.ok c) (h:c.Okc) (d:c.ph=2):Calls prog 178 #[.pointer (some ⟨b,0,none⟩)] w (pR w0 l b c.refs):=by
 by_cases y:(c.t.step c.m).2.2.1=0
 ·exact aMR w z hx h d y
 by_cases e:c.stepT.m.list=[]
 ·exact aFa w z hx h d y e
 exact aHI w z hx h d y e
end
section
variable {w0 w w':World} {l:List Asn} {b:Nat} {c:Co} {x:GX5} {i:Nat} {m:Mk} {t:Tb}
theorem aBo (y:c.ph≠1) (z:c.ph≠2):c.bar=false:=by unfold Co.bar;exact decide_eq_false (by omega)
theorem aKx (w:World) (hf:Fam w0 w (G5 b c x ++ l)) (hx:x.ok c) (h:c.Okc) (hp:c.ph=3) (hs:c.sw=[]):Calls prog 179 #[.pointer (some ⟨b,0,none⟩)] w (pR w0 l b c.free):=by
 refine aF fun R hR=>?_;have d:c.free=(1,{ c with ph:=4,mv:=0 }):=by unfold Co.free;rw [hs]
 rw [d] at hR;have y:=bC.cells hf;have x8:=y.2.2.2.2.2.2.2.2.1;have x3:=y.2.2.2.1;have h3:=y.2.2.2.2.2.2.2.2.2 3;obtain ⟨sa,sc,hv⟩:=(G5.sw hf).len;rw [hs] at hv;rw [hv] at x8;have h1:x.on=false:=hx.on.trans (aBo (by omega) (by omega));have h0:x.mv=0:=hx.m0 (by omega) (by omega);have z:=hx.mv2;have F1:Hid (Fam w0 (w.setCell ⟨b,3,none⟩ (.int .i64 4)) (G5 b { c with ph:=4,mv:=0 } x ++ l)):=G5.tY hf 4;have HR:Hid (∀ w',Fam w0 w' (G5 b { c with ph:=4,mv:=0 } x ++ l)->R (.returned (.int .i64 1)) w'):=fun w' h2=>hR.o _ _ ⟨rfl,x,⟨by rw [h1];symm;exact aBo (c:={ c with ph:=4,mv:=0 }) (show (4:Nat)≠1 by decide) (show (4:Nat)≠2 by decide),fun _=>h0,fun _ e=>absurd e (by show ¬ (4:Nat)<=3;decide),z⟩,h2⟩;clear hf hx h hp hs d hR y hv h1 h0 z;replace x8:w.cell? ⟨b,8,none⟩=some (.slice sa 0 sc):=x8;generalize c.ph=ph at*;go_in;go_wp2_with fail;exact HR.o _ F1.o
theorem aKv (w:World) (z:Fam w0 w (G5 b c x ++ l)) (h:Int):Calls prog 224 #[.pointer (some ⟨x.q,0,none⟩),.int .i64 h] w (fun e w'=>e=.returned (.int .i64 (c.m.M.release h).1)/\Fam w0 w' (G5 b (c.pU (c.m.put (c.m.M.release h).2)) x ++ l)):=
 z.aDA 0 rfl (M':=(c.m.M.release h).2) (fun y=>y.release h) (fun L X hr y=>aDB w hr y h)
theorem aHQ (w:World) (hf:Fam w0 w (G5 b c x ++ l)) (hx:x.ok c) (h:c.Okc) (hp:c.ph=3) {y:Int} {r:List Int} (hs:c.sw=y :: r):Calls prog 179 #[.pointer (some ⟨b,0,none⟩)] w (pR w0 l b c.free):=by
 refine aF fun R hR=>?_;have x5:c.free=(1+((c.m.M.blocks y).1.length:Int),{ c with sw:=r,m:=c.m.put (c.m.M.release y).2 }):=by unfold Co.free;rw [hs]
 rw [x5] at hR;obtain ⟨sa,sc,hv⟩:=(G5.sw hf).len;obtain ⟨hk,L,X,x9⟩:=G5.gh hf;have cb:=aFe w x9 hk y;have y6:=kX hk y;have h8:=h.vV;rw [hs] at hv h8;obtain ⟨n,hn⟩:∃ n,n=r.length:=⟨_,rfl⟩;have HN:=aA hn;replace hv:x.sv=.slice sa (n+1) sc:=by rw [hv,hn];rfl
 replace h8:n+1<=192:=by rw [hn];exact h8
 obtain ⟨vb,vo,y7,x0,x8,xe⟩:=G5.s3 hf hv (k:=0) (by rw [hs];simp);rw [hs] at xe;replace xe:w.cell? ⟨vb,vo,none⟩=some (.int .i64 y):=xe;subst y7;have y5:Hid (c.sw=y :: r):=hs;have x1:Hid (x.sv=.slice (some ⟨vb,vo,none⟩) (n+1) sc):=hv;have z2:n+1<=sc:=by
  have hi:=G5.sw hf;rw [hv] at hi;rcases hi.form with ⟨h1,h2⟩|⟨g,cap,h1,_,_,h4,_⟩
  ·cases h1
  simp only [Value.slice.injEq] at h1;omega
 have F0:=aA hf;have HX:=aA hx;have HR:Hid (∀ w' v,Fam w0 w' (G5 b { c with sw:=r,m:=c.m.put (c.m.M.release y).2 } { x with sv:=v } ++ l)->R (.returned (.int .i64 (1+((c.m.M.blocks y).1.length:Int)))) w'):=fun w' v h2=>hR.o _ _ ⟨rfl,{ x with sv:=v },⟨HX.o.on,HX.o.mv,HX.o.m0,HX.o.mv2⟩,h2⟩;clear hf hx h hp hs x5 hR hv hk x9 hn HX;generalize x3:(c.m.M.blocks y).1=bl at*;have y3:=aA x3;clear x3;obtain ⟨bn,h5⟩:∃ n,n=bl.length:=⟨_,rfl⟩;have y4:=aA h5;rw [<-h5] at HR y6;clear h5;go_in;go_wp2_with fail;go_fit cb;rintro e w1 ⟨v1,rfl,x6,x7⟩;have F1:=aA (F0.o.aK x7);obtain ⟨z3,z4,y1⟩:=x6.len;rw [y3.o,<-y4.o] at y1;subst y1;have y0:=(bC.cells F1.o).1;have cr:=aKv w1 F1.o y;clear cb x6 x7 x0 x8 xe F0;generalize (c.m.M.release y).1=re at*;go_wp2_with fail;go_fit cr;rintro e w2 ⟨rfl,x4⟩;have F2:Hid (Fam w0 w2 (G5 b { c with m:=c.m.put (c.m.M.release y).2 } x ++ l)):=x4;have h6:=bC.cells F2.o;have y8:=h6.2.2.2.2.2.2.2.2.1;have y2:=h6.2.2.2.2.2.2.2.2.2 8;rw [x1.o] at y8;have h7:Hid (∀ j u,r[j]?=some u->w2.cell? ⟨vb,vo+1+j,none⟩=some (.int .i64 u)):=fun j u hu=>by
  have hj:j<r.length:=(List.getElem?_eq_some_iff.1 hu).1;have x2:({ c with m:=c.m.put (c.m.M.release y).2 }:Co).sw=y :: r:=y5.o;obtain ⟨_,_,h3⟩:=G5.s3b F2.o x1.o (k:=j+1) (by rw [x2];simp;omega);rw [x2] at h3;rw [show vo+1+j=vo+(j+1) by omega,h3];simp [gI,hu]
 clear cr x4 y0 F1 h6;go_upto_region 7 with fail;go_wp2_with (at_builtin;refine oL rfl _ _ rfl w2.heap.size _ [] rfl (aN.nil _ _) _ _ _ r rfl ?c0 ?c1 ?c2 ?c3 ?c4 ?c5)
 case c1=>exact HN.o.symm
 case c2.inl=>
  intro j u hu;have hj:j<r.length:=(List.getElem?_eq_some_iff.1 hu).1;have:=HN.o;omega
 case c2.inr=>exact fun j u hu=>h7.o j u hu
 case c3=>simp;omega
 case c4=>exact Nat.le_refl _
 case c5.inl=>
  intro v' w3 d z _;replace z:Only [] w2 w3:=z;have F4:=aA (G5.aGH F2.o z d);obtain ⟨y9,z0,h9⟩:=d.len;subst h9;obtain ⟨n3,h0⟩:∃ n3,n3=r.length:=⟨_,rfl⟩;rw [<-h0] at F4 ⊢;have z8:=(bC.cells (F2.o.aK z)).2.2.2.2.2.2.2.2.1;have z1:=(bC.cells (F2.o.aK z)).2.2.2.2.2.2.2.2.2 8;clear d z y8 y2 F2 h7 h0;go_wp2;exact HR.o _ _ F4.o
 case c5.inr=>
  intro v' w3 d z _;replace z:Only [] w2 w3:=z;have F4:=aA (G5.aGH F2.o z d);obtain ⟨y9,z0,h9⟩:=d.len;subst h9;obtain ⟨n3,h0⟩:∃ n3,n3=r.length:=⟨_,rfl⟩;rw [<-h0] at F4 ⊢;have z8:=(bC.cells (F2.o.aK z)).2.2.2.2.2.2.2.2.1;have z1:=(bC.cells (F2.o.aK z)).2.2.2.2.2.2.2.2.2 8;clear d z y8 y2 F2 h7 h0;go_wp2;exact HR.o _ _ F4.o
theorem aKy (w:World) (z:Fam w0 w (G5 b c x ++ l)) (hx:x.ok c) (h:c.Okc) (d:c.ph=3):Calls prog 179 #[.pointer (some ⟨b,0,none⟩)] w (pR w0 l b c.free):=by
 cases hs:c.sw with
 | nil=>exact aKx w z hx h d hs
 | cons y r=>exact aHQ w z hx h d hs
theorem aMV (w:World) (z:Fam w0 w (G5 b c x ++ l)):Calls prog 228 #[.pointer (some ⟨x.q,0,none⟩)] w (fun e w'=>e=.returned (.tuple #[.int .i64 c.m.M.move.1,.int .i64 c.m.M.move.2.1])/\Fam w0 w' (G5 b (c.pU (c.m.put c.m.M.move.2.2)) x ++ l)):=
 z.aDA 0 rfl (M':=c.m.M.move.2.2) (fun y=>y.move) (fun L X hr y=>aKs w hr y)
theorem aQM (w:World) (hf:Fam w0 w (G5 b c x ++ l)) (hx:x.ok c) (h:c.Okc) (hp:c.ph=4) (h5:c.mv=8*c.pages\/c.m.M.P.move.2.2.1≠0):Calls prog 180 #[.pointer (some ⟨b,0,none⟩)] w (pR w0 l b c.move):=by
 refine aF fun R hR=>?_;have x3:c.move=(1,{ c with ph:=0,cr:=0 }):=by unfold Co.move;rw [if_pos h5]
 rw [x3] at hR;obtain ⟨hk,L,X,x9⟩:=G5.gh hf;have cp:=aDC w x9;have HP:=aA hk.p;have F0:=aA hf;have x0:=(bC.cells hf).1;have x8:x.on=false:=hx.on.trans (aBo (by omega) (by omega));have h8:=hx.mv hp;have y1:=hx.mv2;have y8:=h.pg;have HR:Hid (∀ w',Fam w0 w' (G5 b { c with ph:=0,cr:=0 } x ++ l)->R (.returned (.int .i64 1)) w'):=fun w' h2=>hR.o _ _ ⟨rfl,x,⟨by rw [x8];symm;exact aBo (c:={ c with ph:=0,cr:=0 }) (show (0:Nat)≠1 by decide) (show (0:Nat)≠2 by decide),fun e=>by (cases e),fun e=>by (cases e),y1⟩,h2⟩;have h3:Hid (c.mv=8*c.pages\/c.m.M.P.move.2.2.1≠0):=h5;have h0:=aA h8;clear hf hx h hp hk x9 hR x3 x8 h5 h8;go_in;go_wp2_with fail;go_fit cp;rintro e w1 ⟨q,k,cc,ll,rfl,hq,x5,_,_,_,_⟩;have c2:=nS w1 q k cc ll _ hq;have h6:=aA x5;clear cp x5 hq;go_wp2_with fail;go_fit c2;rintro e w2 ⟨q2,k2,y2,y4,rfl,y0,x6,g1,g2,g3,g4⟩;have c3:=yE w2 q2 k2 y2 y4 _ y0 HP.o;have h7:=aA x6;clear c2 x6 y0;generalize x1:c.m.M.P.move=pm at*;obtain ⟨m1,m2,m3,m4⟩:=pm;go_wp2_with fail;go_fit c3;rintro e w3 ⟨rfl,_,x7⟩;have F3:Hid (Fam w0 w3 (G5 b c x ++ l)):=F0.o.aK (h6.o.trans (h7.o.trans x7 (fun y hy=>by
  right;simp only [List.mem_cons,List.not_mem_nil,or_false] at hy;rcases hy with rfl|rfl|rfl<;>assumption)) (by simp))
 have z:=bC.cells F3.o;have y6:=z.2.2.2.2.2.2.1;have y7:=z.2.2.2.2.2.2.2.1;clear c3 x7 z h6 h7 F0 x0;have iG:Hid (∀ d,Fam w0 d (G5 b c x ++ l)->d.frozen? ⟨b,3,none⟩=false/\(∃ v,d.cell? ⟨b,3,none⟩=some v)/\(d.setCell ⟨b,3,none⟩ (.int .i64 0)).frozen? ⟨b,4,none⟩=false/\(∃ v,(d.setCell ⟨b,3,none⟩ (.int .i64 0)).cell? ⟨b,4,none⟩=some v)/\Fam w0 ((d.setCell ⟨b,3,none⟩ (.int .i64 0)).setCell ⟨b,4,none⟩ (.int .i64 0)) (G5 b { c with ph:=0,cr:=0 } x ++ l)):=fun d hwx=>by
  have F4:Fam w0 (d.setCell ⟨b,3,none⟩ (.int .i64 0)) (G5 b { c with ph:=0 } x ++ l):=G5.tY hwx 0;have z:=bC.cells hwx;have h9:=bC.cells F4;exact ⟨z.2.2.2.2.2.2.2.2.2 3,⟨_,z.2.2.2.1⟩,h9.2.2.2.2.2.2.2.2.2 4,⟨_,h9.2.2.2.2.1⟩,G5.aEt F4 0⟩
 by_cases he:m3=0
 ·have x2:c.mv=8*c.pages:=by
   rcases h3.o with h1|h1
   ·exact h1
   exact absurd he h1
  have x4:=h0.o;rw [x4,x2] at y7;clear h3 h0 x1 x4 x2;subst he;obtain ⟨a8,h4⟩:∃ a8:Int,a8=8*(c.pages:Int):=⟨_,rfl⟩;have y3:IntKind.i64.wrap (8*(c.pages:Int))=a8:=by rw [<-h4];exact IntWalk.i64_in (by omega) (by omega)
  replace y7:w3.cell? ⟨b,7,none⟩=some (.int .i64 a8):=by rw [h4];exact y7
  clear h4;generalize (c.pages:Int)=pg at*;go_upto_region 4 with fail;go_quiet (fail);obtain ⟨e1,⟨_,e2⟩,e3,⟨_,e4⟩,F5⟩:=iG.o _ (F3.o.drewN nq);have F6:=aA F5;generalize w3.drewN nq=w4 at*;clear F3 iG F5 y6 y7 y3;go_wp2_with fail;exact HR.o _ F6.o
 have y5:(m3 != 0)=true:=by simpa using he
 clear h3 h0 x1 he;go_upto_region 4 with fail;go_quiet (fail);obtain ⟨e1,⟨_,e2⟩,e3,⟨_,e4⟩,F5⟩:=iG.o _ (F3.o.drewN nq);have F6:=aA F5;generalize w3.drewN nq=w4 at*;clear F3 iG F5 y6 y7;go_wp2_with fail;exact HR.o _ F6.o
theorem aPe (w:World) (hf:Fam w0 w (G5 b c x ++ l)) (hx:x.ok c) (h:c.Okc) (hp:c.ph=4) (h3:¬ (c.mv=8*c.pages\/c.m.M.P.move.2.2.1≠0)):Calls prog 180 #[.pointer (some ⟨b,0,none⟩)] w (pR w0 l b c.move):=by
 refine aF fun R hR=>?_;have y0:c.move=(4+(bsz (c.m.M.P.class (c.m.M.P.move.1.tdiv 16)).1:Int),{ c with m:=c.m.put c.m.M.move.2.2,mv:=c.mv+1 }):=by unfold Co.move;rw [if_neg h3]
 rw [y0] at hR;obtain ⟨hk,L,X,y4⟩:=G5.gh hf;have cp:=aDC w y4;have HP:=aA hk.p;have F0:=aA hf;have x0:=(bC.cells hf).1;have x6:=hx.mv hp;have z8:=h.pg;have z5:=h.mv;have z7:c.mv≠8*c.pages:=fun e=>h3 (.inl e);have he:c.m.M.P.move.2.2.1=0:=Classical.not_not.1 (fun e=>h3 (.inr e));have x1:=oZ hk.p he;have x7:(c.m.M.P.class (c.m.M.P.move.1.tdiv 16)).1<=2:=aCl hk.p _;have z4:=hk.n24;obtain ⟨y,o,ho,h4,_,_,_,_⟩:=h.hf.rW he;have x8:0<=(c.m.M.P.class (c.m.M.P.move.1.tdiv 16)).1:=by
  have hb:=h.hf.ok.bk y o ho _ h4;have hc:=h.hf.ok.isC ho (m:=o.place c.m.M.P.move.1) h4;rw [Th.oU h4] at hb;obtain ⟨i,k,e1,hh⟩:=hb;have a2:=hc.blk hh.kb;have hs:=hc.sz;have a7:=hh.hi;rw [e1,show (((16*i+k*bsz (gI (aT o.slots.length) (o.place c.m.M.P.move.1)):Nat):Int)).tdiv 16=(i:Int) by rw [Int.tdiv_eq_ediv_of_nonneg (by omega)];omega];unfold Pl.class;rw [if_neg (by omega),Int.toNat_natCast,hh.cls];rcases hc with e|e|e<;>omega
 have HR:Hid (∀ w',Fam w0 w' (G5 b { c with m:=c.m.put c.m.M.move.2.2,mv:=c.mv+1 } { x with mv:=c.mv+1 } ++ l)->R (.returned (.int .i64 (4+(bsz (c.m.M.P.class (c.m.M.P.move.1.tdiv 16)).1:Int)))) w'):=fun w' h2=>hR.o _ _ ⟨rfl,{ x with mv:=c.mv+1 },⟨hx.on,fun _=>rfl,fun _ e=>absurd (show c.ph<=3 from e) (by omega),by show c.mv+1<=192;omega⟩,h2⟩;have x2:=aA x6;have a9:c.mv<=191:=by omega
 have z3:c.mv<8*c.pages:=by omega
 obtain ⟨fr,h0⟩:∃ f,f=c.m.M.P.move.1:=⟨_,rfl⟩;have z2:=aA h0;have y8:0<=fr:=by rw [h0];exact x1.2.1
 have a5:fr<384:=by rw [h0];have:=x1.2.2.2.1;omega
 obtain ⟨d,hd⟩:∃ d,d=fr.tdiv 16:=⟨_,rfl⟩;have a6:0<=d/\d<=24:=by rw [hd,Int.tdiv_eq_ediv_of_nonneg y8];omega
 rw [<-h0,<-hd] at HR x8 x7;have a3:fr.tdiv 16=d:=hd.symm;obtain ⟨cl,h9⟩:∃ k,k=(c.m.M.P.class d).1:=⟨_,rfl⟩;have z1:=aA h9;rw [<-h9] at HR x8 x7;have HE:=aA he;clear hf hx h hp hk y4 hR y0 h3 x6 z7 he x1 z4 ho h4 h0 hd h9 z5;go_in;go_wp2_with fail;go_fit cp;rintro e w1 ⟨q,k,cc,ll,rfl,hq,y1,_,_,_,_⟩;have c2:=nS w1 q k cc ll _ hq;have x3:=aA y1;have HQ:=aA hq;clear cp y1 hq;go_wp2_with fail;go_fit c2;rintro e w2 ⟨q2,k2,z6,a0,rfl,y5,y2,g1,g2,g3,g4⟩;have c3:=yE w2 q2 k2 z6 a0 _ y5 HP.o;rw [<-z2.o,HE.o] at c3;have x4:=aA y2;clear c2 y2 y5;generalize c.m.M.P.move.2.1=b1 at*;go_wp2_with fail;go_fit c3;rintro e w3 ⟨rfl,_,y3⟩;have h5:Only [] w1 w3:=x4.o.trans y3 (fun y hy=>by
  right;simp only [List.mem_cons,List.not_mem_nil,or_false] at hy;rcases hy with rfl|rfl|rfl<;>assumption)
 have F3:Hid (Fam w0 w3 (G5 b c x ++ l)):=F0.o.aK (x3.o.trans h5 (by simp));have x5:Hid (fA w3 q k cc ll c.m.M.P):=HQ.o.only h5 (by simp) (by simp) (by simp) (by simp);have z:=bC.cells F3.o;have y6:=z.2.2.2.2.2.2.1;have y7:=z.2.2.2.2.2.2.2.1;rw [x2.o] at y7;clear c3 y3 h5 z x3 x4 F0 x0 HQ;obtain ⟨a8,h7⟩:∃ a8:Int,a8=8*(c.pages:Int):=⟨_,rfl⟩;have z9:IntKind.i64.wrap (8*(c.pages:Int))=a8:=by rw [<-h7];exact IntWalk.i64_in (by omega) (by omega)
 have y9:((c.mv:Int) == a8)=false:=by rw [h7];simp;omega
 clear h7 z3 z8;generalize (c.pages:Int)=pg at*;generalize a4:c.mv=mv at*;go_upto_region 4 with fail;go_quiet (fail);have F4:=aA (F3.o.drewN nq);have h6:=aGU (w3.drewN nq) q k cc ll _ (x5.o.only ((Only.refl [] _).drewN nq) (by simp) (by simp) (by simp) (by simp)) d;rw [<-z1.o] at h6;generalize (c.m.M.P.class d).2=ce at*;have cg:=aMV (w3.drewN nq) F4.o;have z0:=(bC.cells F4.o).1;generalize w3.drewN nq=w4 at*;clear F3 x5 y6 y7 z9 y9;go_wp2_with fail;go_fit h6;rintro e _ ⟨rfl,rfl⟩;clear h6;generalize c.m.M.move.1=r1 at*;generalize c.m.M.move.2.1=r2 at*;go_wp2_with fail;go_fit cg;rintro e w5 ⟨rfl,x9⟩;have F5:Hid (Fam w0 w5 (G5 b { c with m:=c.m.put c.m.M.move.2.2 } x ++ l)):=x9;have z:=bC.cells F5.o;have y7:=z.2.2.2.2.2.2.2.1;have a1:=z.2.2.2.2.2.2.2.2.2 7;rw [x2.o] at y7;have F6:Hid (Fam w0 (w5.setCell ⟨b,7,none⟩ (.int .i64 ((mv+1:Nat):Int))) (G5 b { c with m:=c.m.put c.m.M.move.2.2,mv:=mv+1 } { x with mv:=mv+1 } ++ l)):=G5.aMd F5.o (mv+1);have h8:IsC cl:=by unfold IsC;omega
 have b0:=h8.sz;clear cg x9 z F4 z0;go_upto_region 11 with fail;have h1:((mv:Int)+1)=((mv+1:Nat):Int):=by omega
 rw [h1];generalize w5.setCell ⟨b,7,none⟩ (.int .i64 ((mv+1:Nat):Int))=w6 at*;clear y7 a1 F5 h1;have cu:=aAd w6 cl h8;clear h8;generalize bsz cl=sz at*;go_wp2_with fail;go_fit cu;rintro e _ ⟨rfl,rfl⟩;clear cu;go_wp2_with fail;exact HR.o _ F6.o
theorem aPf (w:World) (z:Fam w0 w (G5 b c x ++ l)) (hx:x.ok c) (h:c.Okc) (d:c.ph=4):Calls prog 180 #[.pointer (some ⟨b,0,none⟩)] w (pR w0 l b c.move):=by
 by_cases y:c.mv=8*c.pages\/c.m.M.P.move.2.2.1≠0
 ·exact aQM w z hx h d y
 exact aPe w z hx h d y
end
