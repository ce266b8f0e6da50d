/- Lemmas of this claim. -/
import Derived.Test.YthflghdaejbdkaaGreatXcRObjQ
import Derived.Deep.Upon
import Derived.Test.YthflghdaejbdkaaGreatXcTbGC
import Derived.Deep.RegionLaw
namespace Go.Proofs.YthflghdaejbdkaaGreat
open _root_.Go.Proofs.Tryz (prog)
open Go.RowKit Go.Maps
set_option maxHeartbeats 3200000
set_option maxRecDepth 100000
set_option linter.unusedVariables false
section
variable {w w':World}
def aPm (b o:Nat) (w:World):Prop:=(∃ v,w.cell? ⟨b,o,none⟩=some v)/\w.frozen? ⟨b,o,none⟩=false
theorem aFu {ops:Array Oper} {o:Oper} {ac:Act} {wl:World} {K:Act->World->Prop} {Q:Exit->Act->World->Prop} {E:Prop} (h5:o.guard=none) (s x:Operand)
  (ho:o.op=.call { callee:=.builtin .append,args:=#[s,x],argTypes:=#[23,23] }) (w0:World) (hO:Only [] w0 wl)
  (v:Value) (l:List Int) (hs:ac.eval s=v) (d:aK wl w0.heap.size v l) (ad:Addr) (m c:Nat) (z:List Int) (hx:ac.eval x=.slice (some ad) m c) (hl:z.length=m) (h0:∀ j u,z[j]?=some u->wl.cell? (ad.add j)=some (.int .i64 u)) (hm:0<m) (n:Nat) (hn:l.length+m=n) (hb:n<=1000000)
  (h:∀ g cap w',aK w' w0.heap.size (.slice (some ⟨g,0,none⟩) n cap) (l ++ z)->Only [] w0 w'->(∀ B u,v.ownBlock≠some B->wl.cell? ⟨B,0,none⟩=some u->w'.cell? ⟨B,0,none⟩=some u)->K (ac.put o.dst (.slice (some ⟨g,0,none⟩) n cap)) w') :
  if Region.wanted o (yielded ops ac.tmps)=true then Oper.wp prog o ac wl K Q else E:=by
 obtain ⟨i0,h6,h7,h8,h9⟩:=info_parts jV;subst hn;refine step_append_lies _ h5 s x 23 ho w0.heap.size 3 i0 _ 1 8 Tryz.underlying23 h6 h7 h8 h9 rfl (by omega) v l.length (l.map (.int .i64)) hs d ad m c (z.map (.int .i64)) hx (by simp [hl]) (fun j u hu=>?_) (fun u hu=>?_) hm (by simp only [maxLen];omega) (by omega) hO.size wl.heap.size rfl ?_
 ·simp only [List.getElem?_map,Option.map_eq_some_iff] at hu;obtain ⟨y,hy,rfl⟩:=hu;exact h0 j y hy
 ·simp only [List.mem_map] at hu;obtain ⟨y,_,rfl⟩:=hu;rfl
 intro g cap w' h1 h2 h3 h4;refine h g cap w' ?_ (hO.grown h2 (fun k hk=>.inr (d.own k hk).1)) (fun B u hB hc=>?_)
 ·unfold aK;rw [List.length_append,hl,List.map_append];exact h1
 exact (h2.cell_far ⟨B,0,none⟩ (World.block_lt_of_cell? wl _ hc) (fun e=>hB e.symm)).trans hc
theorem aOv (w:World) (o:Obj):Only [] w (w.alloc o).drew:=((Only.refl [] w).alloc o).drew
theorem aOu (w:World) (o o':Obj):Only [] w ((w.alloc o).alloc o').drew:=(((Only.refl [] w).alloc o).alloc o').drew
theorem Only.cell0 {w0 wl:World} (h:Only [] w0 wl) {a:Addr} {v:Value} (y:w0.cell? a=some v):wl.cell? a=some v:=h.cell y (by simp)
theorem Only.frozen0 {w0 wl:World} (h:Only [] w0 wl) {a:Addr} {v:Value} (y:w0.cell? a=some v) (z:w0.frozen? a=false):wl.frozen? a=false:=by
 rw [World.frozen?_of_block (h.block a.block (World.block_lt_of_cell? w0 _ y) (by simp))];exact z
theorem aQx {w0 wl:World} (h:Only [] w0 wl) {b o:Nat} {v:Value} (y:w0.cell? ⟨b,o,none⟩=some v) (z:w0.frozen? ⟨b,o,none⟩=false):aPm b o wl:=⟨⟨v,h.cell0 y⟩,h.frozen0 y z⟩
theorem aHb (w:World) (y z:TypeId) (a:Int):((w.alloc (.cells #[] y)).alloc (.cells #[.int .i64 a] z)).drew.cell? ⟨w.heap.size+1,0,none⟩=some (.int .i64 a):=by
 have:=(Row.new (w.alloc (.cells #[] y)) z [.int .i64 a]).cell 0 rfl;rw [World.size_alloc] at this;exact this
theorem aJx (w:World) (y z:TypeId) (a:Int):((w.alloc (.cells #[.int .i64 a] z)).alloc (.cells #[] y)).drew.cell? ⟨w.heap.size,0,none⟩=some (.int .i64 a):=
 ((Row.new w z [.int .i64 a]).alloc (.cells #[] y)).cell 0 rfl
theorem aMf (b:Nat):(Value.slice (some ⟨b,0,none⟩) 0 0).ownBlock≠some (b+1):=by simp [Value.ownBlock]
theorem aMg (b:Nat):(Value.slice (some ⟨b+1,0,none⟩) 0 0).ownBlock≠some b:=by simp [Value.ownBlock]
theorem aHk (w:World) (y:TypeId) (C:Array Value):aK (((w.alloc (.cells #[] 3)).alloc (.cells C y)).drew) w.heap.size (.slice (some ⟨w.heap.size,0,none⟩) 0 0) []:=(aK.made w).alloc _
theorem aHl (w:World):aK ((w.alloc (.cells #[] 3)).drew) w.heap.size (.slice (some ⟨w.heap.size,0,none⟩) 0 0) []:=aK.made w
theorem aEJ (w:World) (y:TypeId) (C:Array Value):aK (((w.alloc (.cells C y)).alloc (.cells #[] 3)).drew) w.heap.size (.slice (some ⟨w.heap.size+1,0,none⟩) 0 0) []:=by
 have:=(aK.made (w.alloc (.cells C y))).base (b:=w.heap.size) (by simp);rw [World.size_alloc] at this;exact this
theorem yD {w:World} {b:Nat} {a:Int} (h:w.cell? ⟨b,0,none⟩=some (.int .i64 a)):∀ j u,[a][j]?=some u->w.cell? ((⟨b,0,none⟩:Addr).add j)=some (.int .i64 u):=by
 intro j u y
 cases j with
 | zero=>simp at y;subst y;rw [dI];exact h
 | succ j=>simp at y
theorem aEz (w:World) (T:TypeId) (a:Int):∀ j u,[a][j]?=some u->(w.alloc (.cells #[.int .i64 a] T)).cell? ((⟨w.heap.size,0,none⟩:Addr).add j)=some (.int .i64 u):=
 yD ((Row.new w T [.int .i64 a]).cell 0 rfl)
theorem aIM {ops:Array Oper} {o:Oper} {ac:Act} {wl:World} {K:Act->World->Prop} {Q:Exit->Act->World->Prop} {E:Prop} (h0:o.guard=none) (s x:Operand)
  (ho:o.op=.call { callee:=.builtin .append,args:=#[s,x],argTypes:=#[23,23] }) (b:Option Addr) (n c:Nat) (hn:n<=c) (d:Option Addr) (y:Nat) (hs:ac.eval s=.slice b n c) (hx:ac.eval x=.slice d 0 y) (h:K (ac.put o.dst (.slice b n c)) wl) :
  if Region.wanted o (yielded ops ac.tmps)=true then Oper.wp prog o ac wl K Q else E:=by
 have hw:Region.wanted o (yielded ops ac.tmps)=true:=by simp [Region.wanted,h0]
 rw [if_pos hw];obtain ⟨i0,h1,h2,h3,h4⟩:=info_parts jV;have z:Src prog i0.size 23 (.slice d 0 y) 0 [] wl:=by
  cases d with
  | none=>exact Src.ofNil wl Tryz.underlying23 y
  | some a=>exact Src.ofSlice wl Tryz.underlying23 a 0 y [] (by simp) (fun j u e=>by simp at e) (fun u e=>by simp at e)
 have hr:=run_append_nothing (P:=prog) wl 23 23 o.type 3 i0 Tryz.underlying23 h1 b n c hn (.slice d 0 y) z;unfold Oper.wp execOp;simp only [ho,resolve,invoke,builtin,Sem.run_bind,Sem.run_pure,Result.andThen_ok,List.map_toArray,List.map_cons,List.map_nil,hs,hx,hr];exact h
theorem aOd {ops:Array Oper} {o:Oper} {ac:Act} {wl:World} {K:Act->World->Prop} {Q:Exit->Act->World->Prop} {E:Prop} (z:o.guard=none) (s x:Operand)
  (ho:o.op=.call { callee:=.builtin .append,args:=#[s,x],argTypes:=#[23,23] }) (w0:World) (hO:Only [] w0 wl) (b:Nat) (hs:ac.eval s=.slice (some ⟨b,0,none⟩) 0 0) (y:aK wl w0.heap.size (.slice (some ⟨b,0,none⟩) 0 0) [])
  (va:Option Addr) (n e:Nat) (l:List Int) (hx:ac.eval x=.slice va n e) (hl:n=l.length) (hr:pR w0 (.slice va n e) l) (hb:n<=1000000)
  (h:∀ g cap w',aK w' w0.heap.size (.slice (some ⟨g,0,none⟩) n cap) l->Only [] w0 w'->(∀ B u,(Value.slice (some ⟨b,0,none⟩) 0 0).ownBlock≠some B->wl.cell? ⟨B,0,none⟩=some u->w'.cell? ⟨B,0,none⟩=some u)->K (ac.put o.dst (.slice (some ⟨g,0,none⟩) n cap)) w') :
  if Region.wanted o (yielded ops ac.tmps)=true then Oper.wp prog o ac wl K Q else E:=by
 by_cases h0:n=0
 ·subst h0;have d:l=[]:=List.eq_nil_of_length_eq_zero hl.symm;subst d;exact aIM z s x ho (some ⟨b,0,none⟩) 0 0 (Nat.le_refl _) va e hs hx (h b 0 wl y hO (fun _ _ _ hc=>hc))
 rcases hr with ⟨rb,ro,rc,e1,e2⟩|⟨oa,rc,e1,e2⟩
 ·simp only [Value.slice.injEq] at e1;obtain ⟨rfl,_,rfl⟩:=e1;exact aFu z s x ho w0 hO _ [] hs y ⟨rb,ro,none⟩ n e l hx hl.symm (fun j u hu=>by
   have hj:=(List.getElem?_eq_some_iff.1 hu).1;have:=e2 j hj;rw [gI,hu] at this;rw [dI];exact hO.cell this (by simp)) (by omega) n (by simp) hb (fun g cap w' h1 h2 h3=>h g cap w' (by simpa using h1) h2 h3)
 exact absurd (by rw [hl,e2];rfl) h0
end
set_option maxHeartbeats 6400000
theorem tK {l:List En} {x:Nat} (hx:x<l.length) (k:Int) (n:Nat):nxt (l.set x (eAt l x).off) k n=nxt l k n:=by
 unfold nxt;rw [List.length_set];refine rY fun j y=>?_;rw [jY hx]
 by_cases e:j=x
 ·rw [if_pos e,e];rfl
 rw [if_neg e]
section
variable {l:List Asn} {i j k q r b:Nat} {m:Mk} {t s:Tb} {w0 w w':World} {ev qv wv:Value} {nx:Nat} {wl:List Bool}
theorem QL.aCs (h:Three l i j k) (hf:Fam w0 w (QL l i j k q r b m t)) {g n c:Nat} (d:kU w b (.slice (some ⟨g,0,none⟩) n c) qv wv nx wl t) {x:Nat} (hx:x<t.ents.length):kU (w.setCell ⟨g,x*3+1,none⟩ (.int .i64 0)) b (.slice (some ⟨g,0,none⟩) n c) qv wv nx wl ⟨t.ents.set x (eAt t.ents x).off,t.q,t.ph,t.nx,t.fd⟩/\Fam w0 (w.setCell ⟨g,x*3+1,none⟩ (.int .i64 0)) (QL l i j k q r b m ⟨t.ents.set x (eAt t.ents x).off,t.q,t.ph,t.nx,t.fd⟩):=by
 have hn:=d.n1 g rfl;have ho:Only [g] w (w.setCell ⟨g,x*3+1,none⟩ (.int .i64 0)):=(Only.refl _ w).set (.inl (by simp)) _;have hT:kU (w.setCell ⟨g,x*3+1,none⟩ (.int .i64 0)) b (.slice (some ⟨g,0,none⟩) n c) qv wv nx wl ⟨t.ents.set x (eAt t.ents x).off,t.q,t.ph,t.nx,t.fd⟩:=
  ⟨d.row.imp fun U y=>ho.row y (by simpa using Ne.symm hn.1),d.ents.put hx 0 rfl,d.q.only ho (fun z hz e=>hn.2.2 (by simp at e;rw [<-e];exact hz)),d.wh.only ho (fun z hz e=>hn.2.1 (by simp at e;rw [<-e];exact hz)),
   ⟨fun e=>by show nxt (t.ents.set x _) 1 nx=nxt (t.ents.set x _) 1 t.nx;rw [tK hx,tK hx];exact d.now.1 e,fun e=>by show nxt (t.ents.set x _) 2 nx=nxt (t.ents.set x _) 2 t.nx;rw [tK hx,tK hx];exact d.now.2.1 e,fun e=>by show nxt (t.ents.set x _) 3 nx=nxt (t.ents.set x _) 3 t.nx;rw [tK hx,tK hx];exact d.now.2.2 e⟩,
   ⟨d.two.1,fun e=>⟨by show wl.length=(t.ents.set x _).length;rw [List.length_set];exact (d.two.2 e).1,fun y hy hk=>by
    replace hy:y<t.ents.length:=by have:y<(t.ents.set x (eAt t.ents x).off).length:=hy;rwa [List.length_set] at this
    replace hk:(eAt (t.ents.set x (eAt t.ents x).off) y).kind=2:=hk;rw [jY hx] at hk;refine (d.two.2 e).2 y hy ?_
    by_cases e2:y=x
    ·rw [if_pos e2] at hk;rw [e2];exact hk
    rw [if_neg e2] at hk;exact hk⟩⟩,d.n1,d.n2,d.n3⟩
 exact ⟨hT,QL.trT h hf d _ qv wv nx wl _ hT (fun x hx=>.inl hx) (ho.toP (fun x hx=>.inl (.inr (.inl (by simp at hx;rw [hx];rfl)))))⟩
theorem aEq (w:World) (T3:Three l i j k) (z:Fam w0 w (QL l i j k q r b m t)) (hg:t.Good m):Calls prog 21 #[.pointer (some ⟨b,0,none⟩),.pointer (some ⟨r,0,none⟩)] w (fun e w'=>e=.returned (.int .i64 (t.begin m).1)/\Fam w0 w' (QL l i j k q r b m (t.begin m).2)):=by
 refine aF fun R d=>?_;obtain ⟨ev,qv,wv,nx,wl,y⟩:=QL.tr T3 z;obtain ⟨z0,z1,z2,z3,z4,zf⟩:=y.cells;have cd:=jX w T3.t2 z;have HF:=aA z;unfold Tb.begin at d
 by_cases hp:t.ph=0
 rotate_left
 ·rw [if_pos (.inl hp)] at d;have h5:((t.ph:Int) != 0)=true:=by simp;omega
  clear z hg y z0 z1 z3 z4 zf hp cd;generalize t.ph=ph at*;go_in;go_wp2;exact d.out _ _ ⟨rfl,HF.out⟩
 rw [hp] at z2;replace z2:w.cell? ⟨b,2,none⟩=some (.int .i64 0):=z2
 by_cases hl:m.list=[]
 rotate_left
 ·rw [if_pos (.inr hl)] at d;rw [decide_eq_false hl] at cd;clear z hg y z0 z1 z3 z4 zf hp hl;go_in;go_wp2_with fail;refine cd.mono ?_;rintro e _ ⟨rfl,rfl⟩;go_wp2;exact d.out _ _ ⟨rfl,HF.out⟩
 rw [if_neg (fun h=>h.elim (fun h=>h hp) (fun h=>h hl))] at d;rw [decide_eq_true hl] at cd;have hP:Fam w0 ((w.setCell ⟨b,2,none⟩ (.int .i64 1)).setCell ⟨b,3,none⟩ (.int .i64 0)) (QL l i j k q r b m (t.at 1 0)):=by
  have ho:Only [b] w ((w.setCell ⟨b,2,none⟩ (.int .i64 1)).setCell ⟨b,3,none⟩ (.int .i64 0)):=((Only.refl _ w).set (.inl (by simp)) _).set (.inl (by simp)) _;obtain ⟨h1,h2,h3⟩:=y.rest ho;exact QL.trT T3 z y ev qv wv 0 wl _ ⟨y.row.imp fun U x=>(x.set 2 _).set 3 _,h1,h2,h3,aAv.self _,⟨y.two.1,fun e=>by simp [Tb.at] at e⟩,y.n1,y.n2,y.n3⟩ (fun x hx=>.inl hx) (ho.toP (fun x hx=>.inl (.inl (by simpa using hx))))
 have h0:(t.at 1 0).Good m:=⟨hg.b.at _ _,by show 1<=4;omega,Nat.zero_le _,fun e=>by simp [Tb.at] at e,fun e=>by simp [Tb.at] at e⟩;have cs:=iC _ T3 hP h0 (Nat.le_refl 1);have f2:=zf 2;have f3:=zf 3;clear z hg y z0 z1 z4 hP h0 zf hp hl;go_in;go_wp2_with fail;refine cd.mono ?_;rintro e _ ⟨rfl,rfl⟩;go_wp2_with fail;refine cs.mono ?_;rintro e w1 ⟨rfl,z⟩;have h4:=aA z;clear z cs cd;go_wp2;exact d.out _ _ ⟨rfl,h4.out⟩
theorem aJi (w:World) (T3:Three l i j k) (hf:Fam w0 w (QL l i j k q r b m s)) (x:Nat) (hx:x<s.ents.length) (h6:(eAt s.ents x).kind≠2) (hp:s.ph≠2) (hM:m.M.Ok):Calls prog 153 #[.pointer (some ⟨b,0,none⟩),.pointer (some ⟨r,0,none⟩),.int .i64 (x:Int)] w (fun e w'=>e=.returned (.tuple #[])/\Fam w0 w' (QL l i j k q r b (s.clear m x).2 (s.clear m x).1)):=by
 refine aF fun R y=>?_;obtain ⟨ev,qv,wv,nx,wl,ht⟩:=QL.tr T3 hf;obtain ⟨z0,z1,z2,z3,z4,zf⟩:=ht.cells;obtain ⟨g,cap,rfl,h8,_,c0,c1,c2,cf⟩:=ht.ents.at hx;have HF:=aA hf;have HT:=aA ht;have HX:=aA hx;have x3:((eAt s.ents x).kind == 2)=false:=by rw [beq_eq_false_iff_ne];exact h6
 have x4:(0:Int)<=(x:Int):=by omega
 have x5:(x:Int)<(s.ents.length:Int):=by omega
 have z:Hid (m.isW (eAt s.ents x).tgt=false->s.clear m x=(s,m)):=fun h=>by unfold Tb.clear;simp only;rw [if_neg hp,if_neg (by rw [h];simp)]
 have h1:Hid (m.isW (eAt s.ents x).tgt=true->s.clear m x=(⟨s.ents.set x (eAt s.ents x).off,s.q,s.ph,s.nx,s.fd⟩,m)):=fun h=>by unfold Tb.clear;simp only;rw [if_neg hp,if_pos h]
 have d:Hid (Calls prog 161 #[.pointer (some ⟨r,0,none⟩),.int .i64 (eAt s.ents x).tgt] w (fun e w'=>e=.returned (.bool (m.isW (eAt s.ents x).tgt))/\Only [] w w')):=xO w T3.t2 hf _;have HZ:Hid ((eAt s.ents x).tgt=0->m.isW (eAt s.ents x).tgt=false):=fun h=>by
  cases e:m.isW (eAt s.ents x).tgt
  ·rfl
  exact absurd h (aNG hM e).1
 clear hf ht hx h6 hp hM z1 z2 z3 z4 zf c2 cf h8;generalize (eAt s.ents x).kind=kd at *
 by_cases h0:(eAt s.ents x).tgt=0
 ·have hc:=z.out (HZ.out h0);rw [hc] at y;rw [h0] at c1;clear z h1 d HZ hc h0;generalize s.ents.length=h7 at*;go_in;go_wp2_with fail
  first
  | (refine bodyPost_ret (results_none rfl _ _ _) rfl ?_;exact y.out _ _ ⟨rfl,HF.out⟩)
  | exact y.out _ _ ⟨rfl,HF.out⟩
  | (go_end0;exact y.out _ _ ⟨rfl,HF.out⟩)
 have x2:((eAt s.ents x).tgt != 0)=true:=by simpa using h0
 cases hw:m.isW (eAt s.ents x).tgt with
 | false=>
  have hc:=z.out hw;have cw:=d.out;rw [hc] at y;rw [hw] at cw;clear z h1 d HZ hc h0 hw;generalize (eAt s.ents x).tgt=tg at*;generalize s.ents.length=h7 at*;go_in;go_wp2_with fail;refine cw.mono ?_;rintro e w1 ⟨rfl,ho⟩;have h3:=aA (HF.out.aN ho);clear cw ho;go_wp2_with fail
  first
  | (refine bodyPost_ret (results_none rfl _ _ _) rfl ?_;exact y.out _ _ ⟨rfl,h3.out⟩)
  | exact y.out _ _ ⟨rfl,h3.out⟩
  | (go_end0;exact y.out _ _ ⟨rfl,h3.out⟩)
 | true=>
  have hc:=h1.out hw;have cw:=d.out;rw [hc] at y;rw [hw] at cw;clear z h1 d HZ hc h0 hw;go_in;go_wp2_with fail;refine cw.mono ?_;rintro e w1 ⟨rfl,ho⟩;have h2:=HT.out.aN ho;obtain ⟨_,h5⟩:=QL.aCs T3 (HF.out.aN ho) h2 HX.out;have h4:=aA h5;have y0:=h2.cells.1;obtain ⟨g2,h9,hv,_,_,_,d1,_,df⟩:=h2.ents.at HX.out;simp only [Value.slice.injEq,Option.some.injEq,Addr.mk.injEq,and_true,true_and] at hv;obtain ⟨rfl,rfl⟩:=hv;have x1:=df (x*3+1);clear cw ho h2 h5 c0 c1 z0 df;generalize s.ents.length=h7 at*;go_wp2_with fail
  first
  | (refine bodyPost_ret (results_none rfl _ _ _) rfl ?_;exact y.out _ _ ⟨rfl,h4.out⟩)
  | exact y.out _ _ ⟨rfl,h4.out⟩
  | (go_end0;exact y.out _ _ ⟨rfl,h4.out⟩)
theorem aJj (w:World) (T3:Three l i j k) (hf:Fam w0 w (QL l i j k q r b m s)) (x:Nat) (hx:x<s.ents.length) (h3:(eAt s.ents x).kind=2) (hp:s.ph=2) (hz:s.fd x=true->(eAt s.ents x).tgt≠0) (hm:m.Ok) (hq:s.q.length<=20):Calls prog 153 #[.pointer (some ⟨b,0,none⟩),.pointer (some ⟨r,0,none⟩),.int .i64 (x:Int)] w (fun e w'=>e=.returned (.tuple #[])/\Fam w0 w' (QL l i j k q r b (s.clear m x).2 (s.clear m x).1)):=by
 refine aF fun R hR=>?_;obtain ⟨ev,qv,wv,nx,wl,ht⟩:=QL.tr T3 hf;obtain ⟨z0,z1,z2,z3,z4,zf⟩:=ht.cells;obtain ⟨g,cap,rfl,a4,_,c0,c1,c2,cf⟩:=ht.ents.at hx;have HF:=aA hf;have HT:=aA ht;have HX:=aA hx;have HM:=aA hm;have b7:(0:Int)<=(x:Int):=by omega
 have b8:(x:Int)<(s.ents.length:Int):=by omega
 obtain ⟨h5,z5⟩:=ht.two.2 hp;have z6:=z5 x hx h3;rcases ht.wh.form with ⟨_,e⟩|⟨wg,wc,rfl,_,_,_,y9⟩
 ·rw [e] at h5;simp at h5;omega
 have h9:=y9 x (by rw [h5];exact hx);rw [z6] at h9;rw [h5] at z4;have f1:=cf (x*3+1);rw [h3] at c0;have x3:Hid (s.fd x=false->s.clear m x=(s,m)):=fun h=>by unfold Tb.clear;simp only;rw [if_pos hp,if_neg (by rw [h];simp)]
 have x4:Hid (s.fd x=true->s.clear m x=(⟨s.ents.set x (eAt s.ents x).off,s.q ++ [(eAt s.ents x).tag],s.ph,s.nx,s.fd⟩,m.bI (eAt s.ents x).tgt)):=fun h=>by unfold Tb.clear;simp only;rw [if_pos hp,if_pos h]
 have HZ:=aA hz;have HQ:=aA hq;clear hf ht hx h3 hp hm hq hz h5 z5 z6 y9 z1 z2 z3 zf c2 cf a4
 cases hd:s.fd x with
 | false=>
  have hc:=x3.out hd;rw [hc] at hR;rw [hd] at h9;clear x3 x4 HZ hc hd
  by_cases h0:(eAt s.ents x).tgt=0
  ·rw [h0] at c1;clear h0;generalize s.ents.length=x8 at*;go_in;go_wp2_with fail
   first
   | (refine bodyPost_ret (results_none rfl _ _ _) rfl ?_;exact hR.out _ _ ⟨rfl,HF.out⟩)
   | exact hR.out _ _ ⟨rfl,HF.out⟩
   | (go_end0;exact hR.out _ _ ⟨rfl,HF.out⟩)
  have a3:((eAt s.ents x).tgt != 0)=true:=by simpa using h0
  clear h0;generalize (eAt s.ents x).tgt=tg at*;generalize s.ents.length=x8 at*;go_in;go_wp2_with fail
  first
  | (refine bodyPost_ret (results_none rfl _ _ _) rfl ?_;exact hR.out _ _ ⟨rfl,HF.out⟩)
  | exact hR.out _ _ ⟨rfl,HF.out⟩
  | (go_end0;exact hR.out _ _ ⟨rfl,HF.out⟩)
 | true=>
  have hc:=x4.out hd;have a3:((eAt s.ents x).tgt != 0)=true:=by simpa using HZ.out hd
  rw [hc] at hR;rw [hd] at h9;clear x3 x4 HZ hc hd;obtain ⟨h8,y5⟩:=QL.aCs T3 HF.out HT.out HX.out;have y3:=aA y5;have h6:=aA h8;obtain ⟨k0,k1,_,_,_,kf⟩:=h8.cells;obtain ⟨g2,z7,hv,_,_,_,_,k2,_⟩:=h8.ents.at (i:=x) (by show x<(s.ents.set x _).length;rw [List.length_set];exact HX.out);simp only [Value.slice.injEq,Option.some.injEq,Addr.mk.injEq,and_true] at hv;obtain ⟨⟨rfl⟩,x9,rfl⟩:(g=g2)/\True/\cap=z7:=by first|exact ⟨hv.1,trivial,hv.2.2⟩|exact ⟨hv.1,trivial,hv.2⟩
  clear x9;have h7:(eAt (s.ents.set x (eAt s.ents x).off) x).tag=(eAt s.ents x).tag:=by rw [jY HX.out,if_pos rfl];rfl
  replace k2:(w.setCell ⟨g,x*3+1,none⟩ (.int .i64 0)).cell? ⟨g,x*3+2,none⟩=some (.int .i64 (eAt s.ents x).tag):=by rw [<-h7];exact k2
  have a6:=kf 1;clear h8 y5 kf h7 hv;generalize x2:(eAt s.ents x).tag=y at*;obtain ⟨qa,qc,rfl⟩:=h6.out.q.len;obtain ⟨qn,h2⟩:∃ z,z=s.q.length:=⟨_,rfl⟩;have z9:=aA h2;have z8:Hid (pR (w.setCell ⟨g,x*3+1,none⟩ (.int .i64 0)) (.slice qa qn qc) s.q):=by show pR _ _ _;rw [h2];exact h6.out.q.read
  replace k1:(w.setCell ⟨g,x*3+1,none⟩ (.int .i64 0)).cell? ⟨b,1,none⟩=some (.slice qa qn qc):=by rw [h2];exact k1
  have a0:qn<=1000000:=by rw [h2];have:=HQ.out;omega
  have a1:qn+1<=1000000:=by rw [h2];have:=HQ.out;omega
  have a5:s.q.length+1=qn+1:=by rw [h2]
  have iE:Hid (∀ g3 h1 w3,aK w3 (w.setCell ⟨g,x*3+1,none⟩ (.int .i64 0)).heap.size (.slice (some ⟨g3,0,none⟩) (qn+1) h1) (s.q ++ [y])->Only [] (w.setCell ⟨g,x*3+1,none⟩ (.int .i64 0)) w3->
    ((w3.cell? ⟨b,1,none⟩=some (.slice qa qn qc)/\w3.frozen? ⟨b,1,none⟩=false)/\((w3.setCell ⟨b,1,none⟩ (.slice (some ⟨g3,0,none⟩) (qn+1) h1)).cell? ⟨b,0,none⟩=some (.slice (some ⟨g,0,none⟩) s.ents.length cap)/\(w3.setCell ⟨b,1,none⟩ (.slice (some ⟨g3,0,none⟩) (qn+1) h1)).cell? ⟨g,x*3+2,none⟩=some (.int .i64 y)/\aPm b 1 (w3.setCell ⟨b,1,none⟩ (.slice (some ⟨g3,0,none⟩) (qn+1) h1)))/\
     Hid (Fam w0 (w3.setCell ⟨b,1,none⟩ (.slice (some ⟨g3,0,none⟩) (qn+1) h1)) (QL l i j k q r b m ⟨s.ents.set x (eAt s.ents x).off,s.q ++ [y],s.ph,s.nx,s.fd⟩)))):=fun g3 h1 w3 hi ho=>by
   obtain ⟨e1,e2,hT,hF⟩:=QL.aNy T3 y3.out h6.out hi ho;obtain ⟨y0,y1,_,_,_,yf⟩:=hT.cells;obtain ⟨g4,b4,e4,_,_,_,_,y2,_⟩:=hT.ents.at (i:=x) (by show x<(s.ents.set x _).length;rw [List.length_set];exact HX.out);simp only [Value.slice.injEq,Option.some.injEq,Addr.mk.injEq,and_true] at e4;obtain rfl:g=g4:=e4.1;have h7:(eAt (s.ents.set x (eAt s.ents x).off) x).tag=y:=by rw [jY HX.out,if_pos rfl,<-x2];rfl
   refine ⟨⟨by rw [h2];exact e1,e2⟩,⟨y0,?_,⟨⟨_,y1⟩,yf 1⟩⟩,hF⟩;rw [<-h7];exact y2
  have b6:Hid ((eAt s.ents x).tgt=(eAt s.ents x).tgt):=rfl;clear y3 h6 h2 x2 HQ HF HT;go_in;go_upto_region 7 with fail;generalize (w.setCell ⟨g,x*3+1,none⟩ (.int .i64 0))=d at*;generalize s.ents.length=x8 at*;clear z0 z4 c0 c1 h9 f1;have a8:(d.alloc (.cells #[] 3)).cell? ⟨b,1,none⟩=some (.slice qa qn qc):=((Only.refl [] d).alloc _).cell0 k1;have a9:(d.alloc (.cells #[.int .i64 y] 3)).cell? ⟨b,1,none⟩=some (.slice qa qn qc):=((Only.refl [] d).alloc _).cell0 k1;have b0:((d.alloc (.cells #[] 3)).alloc (.cells #[.int .i64 y] 3)).cell? ⟨b,1,none⟩=some (.slice qa qn qc):=(((Only.refl [] d).alloc _).alloc _).cell0 k1;have b1:((d.alloc (.cells #[.int .i64 y] 3)).alloc (.cells #[] 3)).cell? ⟨b,1,none⟩=some (.slice qa qn qc):=(((Only.refl [] d).alloc _).alloc _).cell0 k1;have hO:Only [] d d.drew:=(Only.refl _ _).drewN 1;have b5:aPm b 1 d.drew:=aQx hO k1 a6;clear hO;have a7:(d.alloc (.cells #[] 3)).cell? ⟨b,0,none⟩=some (.slice (some ⟨g,0,none⟩) x8 cap):=((Only.refl [] d).alloc _).cell0 k0;have b2:(d.alloc (.cells #[] 3)).cell? ⟨g,x*3+2,none⟩=some (.int .i64 y):=((Only.refl [] d).alloc _).cell0 k2;go_region_law
   (first
    | (refine aOd (by rfl) (.tmp 58) (.tmp 62) (by rfl) d (by first|exact aOv d _|exact aOu d _ _) _ (by rfl) (by first|exact aHl d|exact aHk d _ _|exact aEJ d _ _) qa qn qc s.q (by rfl) z9.out z8.out a0 ?_;intro g1 b3 w2 x6 h4 x7;have y0:=h4.cell0 k0;have y2:=h4.cell0 k2;first|(have x1:=x7 (d.heap.size+1) (.int .i64 y) (aMf _) (aHb d _ _ y))|(have x1:=x7 d.heap.size (.int .i64 y) (aMg _) (aJx d _ _ y))|skip)
    | (refine aFu (by rfl) (.tmp 63) (.tmp 72) (by rfl) d (by first|exact h4|exact h4.alloc _) _ s.q (by rfl) (by first|exact x6|exact x6.alloc _) _ 1 1 [y] (by rfl) rfl (by first|exact yD x1|exact aEz w2 _ y) (by omega) (qn+1) a5 a1 ?_;intro g3 h1 w3 y7 y8 h3;obtain ⟨⟨a2,fst⟩,⟨s0,s2,sH⟩,hE⟩:=iE.out _ _ _ y7 y8))
  all_goals (
   have y4:=aAP _ T3.t2 hE.out HM.out (eAt s.ents x).tgt;clear x6 h4 x7 y7 y8 h3 a2 fst s0 s2 sH hE iE a8 a9 b0 b1 a7 b2 y0 y2;generalize (w3.setCell ⟨b,1,none⟩ _)=w4 at*;go_wp2_with fail;refine y4.mono ?_;rintro e w5 ⟨rfl,y6⟩;have x5:=aA y6;clear y4 y6;go_wp2_with fail
   first
   | (refine bodyPost_ret (results_none rfl _ _ _) rfl ?_;exact hR.out _ _ ⟨rfl,x5.out⟩)
   | exact hR.out _ _ ⟨rfl,x5.out⟩
   | (go_end0;exact hR.out _ _ ⟨rfl,x5.out⟩))
end
end Go.Proofs.YthflghdaejbdkaaGreat
