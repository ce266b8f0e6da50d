/- Lemmas of this claim. -/
import Derived.Test.YthflghdaejbdkaaGreatXdRObjQ
import Derived.Deep.Upon
import Derived.Test.YthflghdaejbdkaaGreatXdTbGC
import Derived.Deep.RegionLaw
namespace Go.Proofs.YthflghdaejbdkaaGreat
open _root_.Go.Proofs.Tryz (prog)
open Go.RowKit Go.Maps
set_option maxHeartbeats 3200000
set_option maxRecDepth 100000
set_option linter.unusedVariables false
section
variable {w w':World}
def aNG (b o:Nat) (w:World):Prop:=(∃ v,w.cell? ⟨b,o,none⟩=some v)/\w.frozen? ⟨b,o,none⟩=false
theorem aEF {ops:Array Oper} {o:Oper} {ac:Act} {wl:World} {K:Act->World->Prop} {Q:Exit->Act->World->Prop} {E:Prop} (hgd:o.guard=none) (s x:Operand)
  (ho:o.op=.call { callee:=.builtin .append,args:=#[s,x],argTypes:=#[23,23] }) (w0:World) (hO:Only [] w0 wl)
  (v:Value) (l:List Int) (hs:ac.eval s=v) (hown:aO wl w0.heap.size v l) (ad:Addr) (m c:Nat) (news:List Int) (hx:ac.eval x=.slice (some ad) m c) (hl:news.length=m) (hnews:∀ j u,news[j]?=some u->wl.cell? (ad.add j)=some (.int .i64 u)) (hm:0<m) (n:Nat) (hn:l.length+m=n) (hb:n<=1000000)
  (h:∀ g cap w',aO w' w0.heap.size (.slice (some ⟨g,0,none⟩) n cap) (l ++ news)->Only [] w0 w'->(∀ B u,v.ownBlock≠some B->wl.cell? ⟨B,0,none⟩=some u->w'.cell? ⟨B,0,none⟩=some u)->K (ac.put o.dst (.slice (some ⟨g,0,none⟩) n cap)) w') :
  if Region.wanted o (yielded ops ac.tmps)=true then Oper.wp prog o ac wl K Q else E:=by
 obtain ⟨i0,hi0,hz0,hz1,hz2⟩:=info_parts jR;subst hn;refine step_append_lies _ hgd s x 23 ho w0.heap.size 3 i0 _ 1 8 Tryz.underlying23 hi0 hz0 hz1 hz2 rfl (by omega) v l.length (l.map (.int .i64)) hs hown ad m c (news.map (.int .i64)) hx (by simp [hl]) (fun j u hu=>?_) (fun u hu=>?_) hm (by simp only [maxLen];omega) (by omega) hO.size wl.heap.size rfl ?_
 ·simp only [List.getElem?_map,Option.map_eq_some_iff] at hu;obtain ⟨y,hy,rfl⟩:=hu;exact hnews j y hy
 ·simp only [List.mem_map] at hu;obtain ⟨y,_,rfl⟩:=hu;rfl
 intro g cap w' h1 h2 h3 h4;refine h g cap w' ?_ (hO.grown h2 (fun k hk=>.inr (hown.own k hk).1)) (fun B u hB hc=>?_)
 ·unfold aO;rw [List.length_append,hl,List.map_append];exact h1
 exact (h2.cell_far ⟨B,0,none⟩ (World.block_lt_of_cell? wl _ hc) (fun e=>hB e.symm)).trans hc
theorem aMS (w:World) (o:Obj):Only [] w (w.alloc o).drew:=((Only.refl [] w).alloc o).drew
theorem aMR (w:World) (o o':Obj):Only [] w ((w.alloc o).alloc o').drew:=(((Only.refl [] w).alloc o).alloc o').drew
theorem Only.cell0 {w0 wl:World} (h:Only [] w0 wl) {a:Addr} {v:Value} (hc:w0.cell? a=some v):wl.cell? a=some v:=h.cell hc (by simp)
theorem Only.frozen0 {w0 wl:World} (h:Only [] w0 wl) {a:Addr} {v:Value} (hc:w0.cell? a=some v) (hf:w0.frozen? a=false):wl.frozen? a=false:=by
 rw [World.frozen?_of_block (h.block a.block (World.block_lt_of_cell? w0 _ hc) (by simp))];exact hf
theorem aON {w0 wl:World} (h:Only [] w0 wl) {b o:Nat} {v:Value} (hc:w0.cell? ⟨b,o,none⟩=some v) (hf:w0.frozen? ⟨b,o,none⟩=false):aNG b o wl:=⟨⟨v,h.cell0 hc⟩,h.frozen0 hc hf⟩
theorem aFY (w:World) (T1 T2:TypeId) (a:Int):((w.alloc (.cells #[] T1)).alloc (.cells #[.int .i64 a] T2)).drew.cell? ⟨w.heap.size+1,0,none⟩=some (.int .i64 a):=by
 have:=(Row.new (w.alloc (.cells #[] T1)) T2 [.int .i64 a]).cell 0 rfl;rw [World.size_alloc] at this;exact this
theorem aIl (w:World) (T1 T2:TypeId) (a:Int):((w.alloc (.cells #[.int .i64 a] T2)).alloc (.cells #[] T1)).drew.cell? ⟨w.heap.size,0,none⟩=some (.int .i64 a):=
 ((Row.new w T2 [.int .i64 a]).alloc (.cells #[] T1)).cell 0 rfl
theorem aKJ (b:Nat):(Value.slice (some ⟨b,0,none⟩) 0 0).ownBlock≠some (b+1):=by simp [Value.ownBlock]
theorem aKK (b:Nat):(Value.slice (some ⟨b+1,0,none⟩) 0 0).ownBlock≠some b:=by simp [Value.ownBlock]
theorem aGh (w:World) (T2:TypeId) (C:Array Value):aO (((w.alloc (.cells #[] 3)).alloc (.cells C T2)).drew) w.heap.size (.slice (some ⟨w.heap.size,0,none⟩) 0 0) []:=(aO.made w).alloc _
theorem aGi (w:World):aO ((w.alloc (.cells #[] 3)).drew) w.heap.size (.slice (some ⟨w.heap.size,0,none⟩) 0 0) []:=aO.made w
theorem aDR (w:World) (T2:TypeId) (C:Array Value):aO (((w.alloc (.cells C T2)).alloc (.cells #[] 3)).drew) w.heap.size (.slice (some ⟨w.heap.size+1,0,none⟩) 0 0) []:=by
 have:=(aO.made (w.alloc (.cells C T2))).base (b:=w.heap.size) (by simp);rw [World.size_alloc] at this;exact this
theorem wV {w:World} {b:Nat} {a:Int} (h:w.cell? ⟨b,0,none⟩=some (.int .i64 a)):∀ j u,[a][j]?=some u->w.cell? ((⟨b,0,none⟩:Addr).add j)=some (.int .i64 u):=by
 intro j u hu
 cases j with
 | zero=>simp at hu;subst hu;rw [dG];exact h
 | succ j=>simp at hu
theorem aDI (w:World) (T:TypeId) (a:Int):∀ j u,[a][j]?=some u->(w.alloc (.cells #[.int .i64 a] T)).cell? ((⟨w.heap.size,0,none⟩:Addr).add j)=some (.int .i64 u):=
 wV ((Row.new w T [.int .i64 a]).cell 0 rfl)
theorem aHD {ops:Array Oper} {o:Oper} {ac:Act} {wl:World} {K:Act->World->Prop} {Q:Exit->Act->World->Prop} {E:Prop} (hgd:o.guard=none) (s x:Operand)
  (ho:o.op=.call { callee:=.builtin .append,args:=#[s,x],argTypes:=#[23,23] }) (b:Option Addr) (n c:Nat) (hn:n<=c) (va:Option Addr) (vc:Nat) (hs:ac.eval s=.slice b n c) (hx:ac.eval x=.slice va 0 vc) (h:K (ac.put o.dst (.slice b n c)) wl) :
  if Region.wanted o (yielded ops ac.tmps)=true then Oper.wp prog o ac wl K Q else E:=by
 have hw:Region.wanted o (yielded ops ac.tmps)=true:=by simp [Region.wanted,hgd]
 rw [if_pos hw];obtain ⟨i0,hi0,hz0,hz1,hz2⟩:=info_parts jR;have hsrc:Src prog i0.size 23 (.slice va 0 vc) 0 [] wl:=by
  cases va with
  | none=>exact Src.ofNil wl Tryz.underlying23 vc
  | some a=>exact Src.ofSlice wl Tryz.underlying23 a 0 vc [] (by simp) (fun j u hu=>by simp at hu) (fun u hu=>by simp at hu)
 have hr:=run_append_nothing (P:=prog) wl 23 23 o.type 3 i0 Tryz.underlying23 hi0 b n c hn (.slice va 0 vc) hsrc;unfold Oper.wp execOp;simp only [ho,resolve,invoke,builtin,Sem.run_bind,Sem.run_pure,Result.andThen_ok,List.map_toArray,List.map_cons,List.map_nil,hs,hx,hr];exact h
theorem aMC {ops:Array Oper} {o:Oper} {ac:Act} {wl:World} {K:Act->World->Prop} {Q:Exit->Act->World->Prop} {E:Prop} (hgd:o.guard=none) (s x:Operand)
  (ho:o.op=.call { callee:=.builtin .append,args:=#[s,x],argTypes:=#[23,23] }) (w0:World) (hO:Only [] w0 wl) (b:Nat) (hs:ac.eval s=.slice (some ⟨b,0,none⟩) 0 0) (hown:aO wl w0.heap.size (.slice (some ⟨b,0,none⟩) 0 0) [])
  (va:Option Addr) (n vc:Nat) (l:List Int) (hx:ac.eval x=.slice va n vc) (hl:n=l.length) (hr:nI w0 (.slice va n vc) l) (hb:n<=1000000)
  (h:∀ g cap w',aO w' w0.heap.size (.slice (some ⟨g,0,none⟩) n cap) l->Only [] w0 w'->(∀ B u,(Value.slice (some ⟨b,0,none⟩) 0 0).ownBlock≠some B->wl.cell? ⟨B,0,none⟩=some u->w'.cell? ⟨B,0,none⟩=some u)->K (ac.put o.dst (.slice (some ⟨g,0,none⟩) n cap)) w') :
  if Region.wanted o (yielded ops ac.tmps)=true then Oper.wp prog o ac wl K Q else E:=by
 by_cases h0:n=0
 ·subst h0;have hnil:l=[]:=List.eq_nil_of_length_eq_zero hl.symm;subst hnil;exact aHD hgd s x ho (some ⟨b,0,none⟩) 0 0 (Nat.le_refl _) va vc hs hx (h b 0 wl hown hO (fun _ _ _ hc=>hc))
 rcases hr with ⟨rb,ro,rc,e1,e2⟩|⟨oa,rc,e1,e2⟩
 ·simp only [Value.slice.injEq] at e1;obtain ⟨rfl,_,rfl⟩:=e1;exact aEF hgd s x ho w0 hO _ [] hs hown ⟨rb,ro,none⟩ n vc l hx hl.symm (fun j u hu=>by
   have hj:=(List.getElem?_eq_some_iff.1 hu).1;have:=e2 j hj;rw [gI,hu] at this;rw [dG];exact hO.cell this (by simp)) (by omega) n (by simp) hb (fun g cap w' h1 h2 h3=>h g cap w' (by simpa using h1) h2 h3)
 exact absurd (by rw [hl,e2];rfl) h0
end
set_option maxHeartbeats 6400000
theorem rZ {l:List En} {x:Nat} (hx:x<l.length) (k:Int) (n:Nat):nxt (l.set x (eAt l x).off) k n=nxt l k n:=by
 unfold nxt;rw [List.length_set];refine qZ fun j hj=>?_;rw [jU hx]
 by_cases e:j=x
 ·rw [if_pos e,e];rfl
 rw [if_neg e]
section
variable {l:List Asn} {i j k q r b:Nat} {m:Mk} {t s:Tb} {w0 w w':World} {ev qv wv:Value} {nx:Nat} {wl:List Bool}
theorem QL.aBH (h:Three l i j k) (hf:Fam w0 w (QL l i j k q r b m t)) {g n c:Nat} (ht:kN w b (.slice (some ⟨g,0,none⟩) n c) qv wv nx wl t) {x:Nat} (hx:x<t.ents.length):kN (w.setCell ⟨g,x*3+1,none⟩ (.int .i64 0)) b (.slice (some ⟨g,0,none⟩) n c) qv wv nx wl ⟨t.ents.set x (eAt t.ents x).off,t.q,t.ph,t.nx,t.fd⟩/\Fam w0 (w.setCell ⟨g,x*3+1,none⟩ (.int .i64 0)) (QL l i j k q r b m ⟨t.ents.set x (eAt t.ents x).off,t.q,t.ph,t.nx,t.fd⟩):=by
 have hn:=ht.n1 g rfl;have ho:Only [g] w (w.setCell ⟨g,x*3+1,none⟩ (.int .i64 0)):=(Only.refl _ w).set (.inl (by simp)) _;have hT:kN (w.setCell ⟨g,x*3+1,none⟩ (.int .i64 0)) b (.slice (some ⟨g,0,none⟩) n c) qv wv nx wl ⟨t.ents.set x (eAt t.ents x).off,t.q,t.ph,t.nx,t.fd⟩:=
  ⟨ht.row.imp fun U y=>ho.row y (by simpa using Ne.symm hn.1),ht.ents.put hx 0 rfl,ht.q.only ho (fun z hz e=>hn.2.2 (by simp at e;rw [<-e];exact hz)),ht.wh.only ho (fun z hz e=>hn.2.1 (by simp at e;rw [<-e];exact hz)),
   ⟨fun e=>by show nxt (t.ents.set x _) 1 nx=nxt (t.ents.set x _) 1 t.nx;rw [rZ hx,rZ hx];exact ht.now.1 e,fun e=>by show nxt (t.ents.set x _) 2 nx=nxt (t.ents.set x _) 2 t.nx;rw [rZ hx,rZ hx];exact ht.now.2.1 e,fun e=>by show nxt (t.ents.set x _) 3 nx=nxt (t.ents.set x _) 3 t.nx;rw [rZ hx,rZ hx];exact ht.now.2.2 e⟩,
   ⟨ht.two.1,fun e=>⟨by show wl.length=(t.ents.set x _).length;rw [List.length_set];exact (ht.two.2 e).1,fun y hy hk=>by
    replace hy:y<t.ents.length:=by have:y<(t.ents.set x (eAt t.ents x).off).length:=hy;rwa [List.length_set] at this
    replace hk:(eAt (t.ents.set x (eAt t.ents x).off) y).kind=2:=hk;rw [jU hx] at hk;refine (ht.two.2 e).2 y hy ?_
    by_cases e2:y=x
    ·rw [if_pos e2] at hk;rw [e2];exact hk
    rw [if_neg e2] at hk;exact hk⟩⟩,ht.n1,ht.n2,ht.n3⟩
 exact ⟨hT,QL.trT h hf ht _ qv wv nx wl _ hT (fun x hx=>.inl hx) (ho.toP (fun x hx=>.inl (.inr (.inl (by simp at hx;rw [hx];rfl)))))⟩
theorem aDz (w:World) (T3:Three l i j k) (hf:Fam w0 w (QL l i j k q r b m t)) (hg:t.Good m):Calls prog 21 #[.pointer (some ⟨b,0,none⟩),.pointer (some ⟨r,0,none⟩)] w (fun e w'=>e=.returned (.int .i64 (t.begin m).1)/\Fam w0 w' (QL l i j k q r b m (t.begin m).2)):=by
 refine aF fun R hR=>?_;obtain ⟨ev,qv,wv,nx,wl,ht⟩:=QL.tr T3 hf;obtain ⟨z0,z1,z2,z3,z4,zf⟩:=ht.cells;have cd:=jT w T3.t2 hf;have HF:=aA hf;unfold Tb.begin at hR
 by_cases hp:t.ph=0
 rotate_left
 ·rw [if_pos (.inl hp)] at hR;have hp1:((t.ph:Int) != 0)=true:=by simp;omega
  clear hf hg ht z0 z1 z3 z4 zf hp cd;generalize t.ph=ph at*;go_in;go_wp2_with fail;exact hR.out _ _ ⟨rfl,HF.out⟩
 rw [hp] at z2;replace z2:w.cell? ⟨b,2,none⟩=some (.int .i64 0):=z2
 by_cases hl:m.list=[]
 rotate_left
 ·rw [if_pos (.inr hl)] at hR;rw [decide_eq_false hl] at cd;clear hf hg ht z0 z1 z3 z4 zf hp hl;go_in;go_wp2_with fail;refine cd.mono ?_;rintro e _ ⟨rfl,rfl⟩;go_wp2_with fail;exact hR.out _ _ ⟨rfl,HF.out⟩
 rw [if_neg (fun h=>h.elim (fun h=>h hp) (fun h=>h hl))] at hR;rw [decide_eq_true hl] at cd;have hP:Fam w0 ((w.setCell ⟨b,2,none⟩ (.int .i64 1)).setCell ⟨b,3,none⟩ (.int .i64 0)) (QL l i j k q r b m (t.at 1 0)):=by
  have ho:Only [b] w ((w.setCell ⟨b,2,none⟩ (.int .i64 1)).setCell ⟨b,3,none⟩ (.int .i64 0)):=((Only.refl _ w).set (.inl (by simp)) _).set (.inl (by simp)) _;obtain ⟨h1,h2,h3⟩:=ht.rest ho;exact QL.trT T3 hf ht ev qv wv 0 wl _ ⟨ht.row.imp fun U x=>(x.set 2 _).set 3 _,h1,h2,h3,zQ.self _,⟨ht.two.1,fun e=>by simp [Tb.at] at e⟩,ht.n1,ht.n2,ht.n3⟩ (fun x hx=>.inl hx) (ho.toP (fun x hx=>.inl (.inl (by simpa using hx))))
 have hg1:(t.at 1 0).Good m:=⟨hg.b.at _ _,by show 1<=4;omega,Nat.zero_le _,fun e=>by simp [Tb.at] at e,fun e=>by simp [Tb.at] at e⟩;have cs:=gJ _ T3 hP hg1 (Nat.le_refl 1);have f2:=zf 2;have f3:=zf 3;clear hf hg ht z0 z1 z4 hP hg1 zf hp hl;go_in;go_wp2_with fail;refine cd.mono ?_;rintro e _ ⟨rfl,rfl⟩;go_wp2_with fail;refine cs.mono ?_;rintro e w1 ⟨rfl,hf⟩;have HF1:=aA hf;clear hf cs cd;go_wp2_with fail;exact hR.out _ _ ⟨rfl,HF1.out⟩
theorem aIa (w:World) (T3:Three l i j k) (hf:Fam w0 w (QL l i j k q r b m s)) (x:Nat) (hx:x<s.ents.length) (hk2:(eAt s.ents x).kind≠2) (hp:s.ph≠2) (hM:m.M.Ok):Calls prog 153 #[.pointer (some ⟨b,0,none⟩),.pointer (some ⟨r,0,none⟩),.int .i64 (x:Int)] w (fun e w'=>e=.returned (.tuple #[])/\Fam w0 w' (QL l i j k q r b (s.clear m x).2 (s.clear m x).1)):=by
 refine aF fun R hR=>?_;obtain ⟨ev,qv,wv,nx,wl,ht⟩:=QL.tr T3 hf;obtain ⟨z0,z1,z2,z3,z4,zf⟩:=ht.cells;obtain ⟨g,cap,rfl,hgl,_,c0,c1,c2,cf⟩:=ht.ents.at hx;have HF:=aA hf;have HT:=aA ht;have HX:=aA hx;have h22:((eAt s.ents x).kind == 2)=false:=by rw [beq_eq_false_iff_ne];exact hk2
 have hx0:(0:Int)<=(x:Int):=by omega
 have hx1:(x:Int)<(s.ents.length:Int):=by omega
 have HCN:Hid (m.isW (eAt s.ents x).tgt=false->s.clear m x=(s,m)):=fun h=>by unfold Tb.clear;simp only;rw [if_neg hp,if_neg (by rw [h];simp)]
 have HCY:Hid (m.isW (eAt s.ents x).tgt=true->s.clear m x=(⟨s.ents.set x (eAt s.ents x).off,s.q,s.ph,s.nx,s.fd⟩,m)):=fun h=>by unfold Tb.clear;simp only;rw [if_neg hp,if_pos h]
 have HCW:Hid (Calls prog 161 #[.pointer (some ⟨r,0,none⟩),.int .i64 (eAt s.ents x).tgt] w (fun e w'=>e=.returned (.bool (m.isW (eAt s.ents x).tgt))/\Only [] w w')):=wI w T3.t2 hf _;have HZ:Hid ((eAt s.ents x).tgt=0->m.isW (eAt s.ents x).tgt=false):=fun h=>by
  cases e:m.isW (eAt s.ents x).tgt
  ·rfl
  exact absurd h (aMk hM e).1
 clear hf ht hx hk2 hp hM z1 z2 z3 z4 zf c2 cf hgl;generalize (eAt s.ents x).kind=kd at *
 by_cases h0:(eAt s.ents x).tgt=0
 ·have hc:=HCN.out (HZ.out h0);rw [hc] at hR;rw [h0] at c1;clear HCN HCY HCW HZ hc h0;generalize s.ents.length=len at*;go_in;go_wp2_with fail
  first
  | (refine bodyPost_ret (results_none rfl _ _ _) rfl ?_;exact hR.out _ _ ⟨rfl,HF.out⟩)
  | exact hR.out _ _ ⟨rfl,HF.out⟩
  | (go_end0;exact hR.out _ _ ⟨rfl,HF.out⟩)
 have h0b:((eAt s.ents x).tgt != 0)=true:=by simpa using h0
 cases hw:m.isW (eAt s.ents x).tgt with
 | false=>
  have hc:=HCN.out hw;have cw:=HCW.out;rw [hc] at hR;rw [hw] at cw;clear HCN HCY HCW HZ hc h0 hw;generalize (eAt s.ents x).tgt=tg at*;generalize s.ents.length=len at*;go_in;go_wp2_with fail;refine cw.mono ?_;rintro e w1 ⟨rfl,ho⟩;have HF1:=aA (HF.out.aN ho);clear cw ho;go_wp2_with fail
  first
  | (refine bodyPost_ret (results_none rfl _ _ _) rfl ?_;exact hR.out _ _ ⟨rfl,HF1.out⟩)
  | exact hR.out _ _ ⟨rfl,HF1.out⟩
  | (go_end0;exact hR.out _ _ ⟨rfl,HF1.out⟩)
 | true=>
  have hc:=HCY.out hw;have cw:=HCW.out;rw [hc] at hR;rw [hw] at cw;clear HCN HCY HCW HZ hc h0 hw;go_in;go_wp2_with fail;refine cw.mono ?_;rintro e w1 ⟨rfl,ho⟩;have ht1:=HT.out.aN ho;obtain ⟨_,hf2⟩:=QL.aBH T3 (HF.out.aN ho) ht1 HX.out;have HF2:=aA hf2;have y0:=ht1.cells.1;obtain ⟨g2,cap2,hv,_,_,_,d1,_,df⟩:=ht1.ents.at HX.out;simp only [Value.slice.injEq,Option.some.injEq,Addr.mk.injEq,and_true,true_and] at hv;obtain ⟨rfl,rfl⟩:=hv;have df1:=df (x*3+1);clear cw ho ht1 hf2 c0 c1 z0 df;generalize s.ents.length=len at*;go_wp2_with fail
  first
  | (refine bodyPost_ret (results_none rfl _ _ _) rfl ?_;exact hR.out _ _ ⟨rfl,HF2.out⟩)
  | exact hR.out _ _ ⟨rfl,HF2.out⟩
  | (go_end0;exact hR.out _ _ ⟨rfl,HF2.out⟩)
theorem aIb (w:World) (T3:Three l i j k) (hf:Fam w0 w (QL l i j k q r b m s)) (x:Nat) (hx:x<s.ents.length) (hk2:(eAt s.ents x).kind=2) (hp:s.ph=2) (hz:s.fd x=true->(eAt s.ents x).tgt≠0) (hm:m.Ok) (hq:s.q.length<=20):Calls prog 153 #[.pointer (some ⟨b,0,none⟩),.pointer (some ⟨r,0,none⟩),.int .i64 (x:Int)] w (fun e w'=>e=.returned (.tuple #[])/\Fam w0 w' (QL l i j k q r b (s.clear m x).2 (s.clear m x).1)):=by
 refine aF fun R hR=>?_;obtain ⟨ev,qv,wv,nx,wl,ht⟩:=QL.tr T3 hf;obtain ⟨z0,z1,z2,z3,z4,zf⟩:=ht.cells;obtain ⟨g,cap,rfl,hgl,_,c0,c1,c2,cf⟩:=ht.ents.at hx;have HF:=aA hf;have HT:=aA ht;have HX:=aA hx;have HM:=aA hm;have hx0:(0:Int)<=(x:Int):=by omega
 have hx1:(x:Int)<(s.ents.length:Int):=by omega
 obtain ⟨hwl,hwf⟩:=ht.two.2 hp;have hwx:=hwf x hx hk2;rcases ht.wh.form with ⟨_,e⟩|⟨wg,wc,rfl,_,_,_,hwc⟩
 ·rw [e] at hwl;simp at hwl;omega
 have hw1:=hwc x (by rw [hwl];exact hx);rw [hwx] at hw1;rw [hwl] at z4;have f1:=cf (x*3+1);rw [hk2] at c0;have HCN:Hid (s.fd x=false->s.clear m x=(s,m)):=fun h=>by unfold Tb.clear;simp only;rw [if_pos hp,if_neg (by rw [h];simp)]
 have HCY:Hid (s.fd x=true->s.clear m x=(⟨s.ents.set x (eAt s.ents x).off,s.q ++ [(eAt s.ents x).tag],s.ph,s.nx,s.fd⟩,m.bH (eAt s.ents x).tgt)):=fun h=>by unfold Tb.clear;simp only;rw [if_pos hp,if_pos h]
 have HZ:=aA hz;have HQ:=aA hq;clear hf ht hx hk2 hp hm hq hz hwl hwf hwx hwc z1 z2 z3 zf c2 cf hgl
 cases hd:s.fd x with
 | false=>
  have hc:=HCN.out hd;rw [hc] at hR;rw [hd] at hw1;clear HCN HCY HZ hc hd
  by_cases h0:(eAt s.ents x).tgt=0
  ·rw [h0] at c1;clear h0;generalize s.ents.length=len at*;go_in;go_wp2_with fail
   first
   | (refine bodyPost_ret (results_none rfl _ _ _) rfl ?_;exact hR.out _ _ ⟨rfl,HF.out⟩)
   | exact hR.out _ _ ⟨rfl,HF.out⟩
   | (go_end0;exact hR.out _ _ ⟨rfl,HF.out⟩)
  have h0b:((eAt s.ents x).tgt != 0)=true:=by simpa using h0
  clear h0;generalize (eAt s.ents x).tgt=tg at*;generalize s.ents.length=len at*;go_in;go_wp2_with fail
  first
  | (refine bodyPost_ret (results_none rfl _ _ _) rfl ?_;exact hR.out _ _ ⟨rfl,HF.out⟩)
  | exact hR.out _ _ ⟨rfl,HF.out⟩
  | (go_end0;exact hR.out _ _ ⟨rfl,HF.out⟩)
 | true=>
  have hc:=HCY.out hd;have h0b:((eAt s.ents x).tgt != 0)=true:=by simpa using HZ.out hd
  rw [hc] at hR;rw [hd] at hw1;clear HCN HCY HZ hc hd;obtain ⟨ht1,hf1⟩:=QL.aBH T3 HF.out HT.out HX.out;have HF1:=aA hf1;have HT1:=aA ht1;obtain ⟨k0,k1,_,_,_,kf⟩:=ht1.cells;obtain ⟨g2,cap2,hv,_,_,_,_,k2,_⟩:=ht1.ents.at (i:=x) (by show x<(s.ents.set x _).length;rw [List.length_set];exact HX.out);simp only [Value.slice.injEq,Option.some.injEq,Addr.mk.injEq,and_true] at hv;obtain ⟨⟨rfl⟩,hlen2,rfl⟩:(g=g2)/\True/\cap=cap2:=by first|exact ⟨hv.1,trivial,hv.2.2⟩|exact ⟨hv.1,trivial,hv.2⟩
  clear hlen2;have aPC:(eAt (s.ents.set x (eAt s.ents x).off) x).tag=(eAt s.ents x).tag:=by rw [jU HX.out,if_pos rfl];rfl
  replace k2:(w.setCell ⟨g,x*3+1,none⟩ (.int .i64 0)).cell? ⟨g,x*3+2,none⟩=some (.int .i64 (eAt s.ents x).tag):=by rw [<-aPC];exact k2
  have kf1:=kf 1;clear ht1 hf1 kf aPC hv;generalize htag:(eAt s.ents x).tag=tag at*;obtain ⟨qa,qc,rfl⟩:=HT1.out.q.len;obtain ⟨qn,hqn⟩:∃ z,z=s.q.length:=⟨_,rfl⟩;have HQN:=aA hqn;have HQI:Hid (nI (w.setCell ⟨g,x*3+1,none⟩ (.int .i64 0)) (.slice qa qn qc) s.q):=by show nI _ _ _;rw [hqn];exact HT1.out.q.read
  replace k1:(w.setCell ⟨g,x*3+1,none⟩ (.int .i64 0)).cell? ⟨b,1,none⟩=some (.slice qa qn qc):=by rw [hqn];exact k1
  have aRu:qn<=1000000:=by rw [hqn];have:=HQ.out;omega
  have aSn:qn+1<=1000000:=by rw [hqn];have:=HQ.out;omega
  have hn2:s.q.length+1=qn+1:=by rw [hqn]
  have gU:Hid (∀ g3 cap3 w3,aO w3 (w.setCell ⟨g,x*3+1,none⟩ (.int .i64 0)).heap.size (.slice (some ⟨g3,0,none⟩) (qn+1) cap3) (s.q ++ [tag])->Only [] (w.setCell ⟨g,x*3+1,none⟩ (.int .i64 0)) w3->
    ((w3.cell? ⟨b,1,none⟩=some (.slice qa qn qc)/\w3.frozen? ⟨b,1,none⟩=false)/\((w3.setCell ⟨b,1,none⟩ (.slice (some ⟨g3,0,none⟩) (qn+1) cap3)).cell? ⟨b,0,none⟩=some (.slice (some ⟨g,0,none⟩) s.ents.length cap)/\(w3.setCell ⟨b,1,none⟩ (.slice (some ⟨g3,0,none⟩) (qn+1) cap3)).cell? ⟨g,x*3+2,none⟩=some (.int .i64 tag)/\aNG b 1 (w3.setCell ⟨b,1,none⟩ (.slice (some ⟨g3,0,none⟩) (qn+1) cap3)))/\
     Hid (Fam w0 (w3.setCell ⟨b,1,none⟩ (.slice (some ⟨g3,0,none⟩) (qn+1) cap3)) (QL l i j k q r b m ⟨s.ents.set x (eAt s.ents x).off,s.q ++ [tag],s.ph,s.nx,s.fd⟩)))):=fun g3 cap3 w3 hi ho=>by
   obtain ⟨e1,e2,hT,hF⟩:=QL.aMb T3 HF1.out HT1.out hi ho;obtain ⟨y0,y1,_,_,_,yf⟩:=hT.cells;obtain ⟨g4,cap4,e4,_,_,_,_,y2,_⟩:=hT.ents.at (i:=x) (by show x<(s.ents.set x _).length;rw [List.length_set];exact HX.out);simp only [Value.slice.injEq,Option.some.injEq,Addr.mk.injEq,and_true] at e4;obtain rfl:g=g4:=e4.1;have aPC:(eAt (s.ents.set x (eAt s.ents x).off) x).tag=tag:=by rw [jU HX.out,if_pos rfl,<-htag];rfl
   refine ⟨⟨by rw [hqn];exact e1,e2⟩,⟨y0,?_,⟨⟨_,y1⟩,yf 1⟩⟩,hF⟩;rw [<-aPC];exact y2
  have aTM:Hid ((eAt s.ents x).tgt=(eAt s.ents x).tgt):=rfl;clear HF1 HT1 hqn htag HQ HF HT;go_in;go_upto_region 7 with fail;generalize (w.setCell ⟨g,x*3+1,none⟩ (.int .i64 0))=w1 at*;generalize s.ents.length=len at*;clear z0 z4 c0 c1 hw1 f1;have z1a:(w1.alloc (.cells #[] 3)).cell? ⟨b,1,none⟩=some (.slice qa qn qc):=((Only.refl [] w1).alloc _).cell0 k1;have z1b:(w1.alloc (.cells #[.int .i64 tag] 3)).cell? ⟨b,1,none⟩=some (.slice qa qn qc):=((Only.refl [] w1).alloc _).cell0 k1;have z1c:((w1.alloc (.cells #[] 3)).alloc (.cells #[.int .i64 tag] 3)).cell? ⟨b,1,none⟩=some (.slice qa qn qc):=(((Only.refl [] w1).alloc _).alloc _).cell0 k1;have z1d:((w1.alloc (.cells #[.int .i64 tag] 3)).alloc (.cells #[] 3)).cell? ⟨b,1,none⟩=some (.slice qa qn qc):=(((Only.refl [] w1).alloc _).alloc _).cell0 k1;have hO:Only [] w1 w1.drew:=(Only.refl _ _).drewN 1;have aOa:aNG b 1 w1.drew:=aON hO k1 kf1;clear hO;have z0a:(w1.alloc (.cells #[] 3)).cell? ⟨b,0,none⟩=some (.slice (some ⟨g,0,none⟩) len cap):=((Only.refl [] w1).alloc _).cell0 k0;have z2a:(w1.alloc (.cells #[] 3)).cell? ⟨g,x*3+2,none⟩=some (.int .i64 tag):=((Only.refl [] w1).alloc _).cell0 k2;go_region_law
   (first
    | (refine aMC (by rfl) (.tmp 58) (.tmp 62) (by rfl) w1 (by first|exact aMS w1 _|exact aMR w1 _ _) _ (by rfl) (by first|exact aGi w1|exact aGh w1 _ _|exact aDR w1 _ _) qa qn qc s.q (by rfl) HQN.out HQI.out aRu ?_;intro g1 cap1 w2 hi1 hs1 hk1;have y0:=hs1.cell0 k0;have y2:=hs1.cell0 k2;first|(have hone:=hk1 (w1.heap.size+1) (.int .i64 tag) (aKJ _) (aFY w1 _ _ tag))|(have hone:=hk1 w1.heap.size (.int .i64 tag) (aKK _) (aIl w1 _ _ tag))|skip)
    | (refine aEF (by rfl) (.tmp 63) (.tmp 72) (by rfl) w1 (by first|exact hs1|exact hs1.alloc _) _ s.q (by rfl) (by first|exact hi1|exact hi1.alloc _) _ 1 1 [tag] (by rfl) rfl (by first|exact wV hone|exact aDI w2 _ tag) (by omega) (qn+1) hn2 aSn ?_;intro g3 cap3 w3 hi2 hs2 hk2;obtain ⟨⟨cst,fst⟩,⟨s0,s2,sH⟩,hE⟩:=gU.out _ _ _ hi2 hs2))
  all_goals (
   have csh:=aAh _ T3.t2 hE.out HM.out (eAt s.ents x).tgt;clear hi1 hs1 hk1 hi2 hs2 hk2 cst fst s0 s2 sH hE gU z1a z1b z1c z1d z0a z2a y0 y2;generalize (w3.setCell ⟨b,1,none⟩ _)=w4 at*;go_wp2_with fail;refine csh.mono ?_;rintro e w5 ⟨rfl,hf5⟩;have HF5:=aA hf5;clear csh hf5;go_wp2_with fail
   first
   | (refine bodyPost_ret (results_none rfl _ _ _) rfl ?_;exact hR.out _ _ ⟨rfl,HF5.out⟩)
   | exact hR.out _ _ ⟨rfl,HF5.out⟩
   | (go_end0;exact hR.out _ _ ⟨rfl,HF5.out⟩))
end
end Go.Proofs.YthflghdaejbdkaaGreat
