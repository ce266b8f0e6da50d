/- Lemmas of this claim. -/
import Derived.Test.YthflghdaejbdkaaGreatXcOFam
import Derived.Deep.RegionLaw
namespace Go.Proofs.YthflghdaejbdkaaGreat
open Go.RowKit Go.Maps
set_option maxHeartbeats 12800000
set_option maxRecDepth 100000
set_option linter.unusedVariables false
def jK (F:Nat->Nat->Value):Nat->List Value
 | 0=>[]
 | m+1=>jK F m ++ [F m 0,F m 1,F m 2,F m 3,F m 4]
theorem aEU (F:Nat->Nat->Value) (m:Nat):jK F (m+1)=jK F m ++ [F m 0,F m 1,F m 2,F m 3,F m 4]:=rfl
theorem uQ (F:Nat->Nat->Value) (m:Nat):(jK F m).length=m*5:=by
 induction m with
 | zero=>rfl
 | succ m y=>unfold jK;rw [List.length_append,y];simp;omega
theorem aKC {F:Nat->Nat->Value} {m i j:Nat} (d:i<m) (y:j<5):(jK F m)[i*5+j]?=some (F i j):=by
 induction m with
 | zero=>omega
 | succ m z=>
  unfold jK
  by_cases e:i=m
  ·subst e;rw [List.getElem?_append_right (by rw [uQ];omega),uQ,show i*5+j - i*5=j by omega]
   match j,y with
   | 0,_=>rfl
   | 1,_=>rfl
   | 2,_=>rfl
   | 3,_=>rfl
   | 4,_=>rfl
   | j+5,y=>omega
  rw [List.getElem?_append_left (by rw [uQ];omega)];exact z (by omega)
theorem aDA {F G:Nat->Nat->Value} {m:Nat} (h:∀ i,i<m->∀ j,F i j=G i j):jK F m=jK G m:=by
 induction m with
 | zero=>rfl
 | succ m y=>unfold jK;rw [y (fun i z=>h i (by omega)),h m (by omega),h m (by omega),h m (by omega),h m (by omega),h m (by omega)]
theorem pR.aPW {w w':World} {v:Value} {l:List Int} (h:pR w v l) (e:Only [] w w'):pR w' v l:=by
 rcases h with ⟨b,o,c,y,z⟩|y
 ·exact .inl ⟨b,o,c,y,fun i d=>e.cell (z i d) (by simp)⟩
 exact .inr y
structure GPt (w:World) (base:Nat) (L:Nat->Option Gb) (rv sv bv:Int->Value) (ogv:Value) (ob:Int->Option Th) (m:Nat):Prop where
 row:w.ownsRow base 217 5 ogv m (jK (fun i j=>nT (ob i) (rv i) (sv i) (bv i) j) m)
 og:∀ g,ogv.ownBlock=some g->L g=none
 lt:∀ k,L k≠none->base<=k/\k<w.heap.size
 th:∀ i:Nat,i<m->∀ o,ob i=some o->GTh w L i (rv i) (sv i) (bv i) o
section
variable {w w':World} {base:Nat} {L:Nat->Option Gb} {rv sv bv:Int->Value} {ogv aRd r s b:Value} {ob:Int->Option Th} {m:Nat}
theorem GPt.nil (w:World) (base:Nat) (ob:Int->Option Th):GPt w base (fun _=>none) (fun _=>.slice none 0 0) (fun _=>.slice none 0 0) (fun _=>.slice none 0 0) (.slice none 0 0) ob 0:=
 ⟨World.ownsRow_nil _ _ _ _,fun g y=>rfl,fun k hk=>absurd rfl hk,fun i hi=>by omega⟩
theorem GPt.next (h:GPt w base L rv sv bv ogv ob m) (x7:base<=w.heap.size) (hO:aI (fun k=>ogv.ownBlock=some k\/k<base) w w')
  (x1:w'.ownsRow base 217 5 aRd (m+1) (jK (fun i j=>nT (ob i) (rv i) (sv i) (bv i) j) m ++ [nT (ob m) r s b 0,nT (ob m) r s b 1,nT (ob m) r s b 2,nT (ob m) r s b 3,nT (ob m) r s b 4]))
  (h6:∀ k,r.ownBlock=some k->w.heap.size<=k/\k<w'.heap.size) (h7:∀ k,s.ownBlock=some k->w.heap.size<=k/\k<w'.heap.size) (h0:∀ k,b.ownBlock=some k->w.heap.size<=k/\k<w'.heap.size)
  (x3:∀ g,aRd.ownBlock=some g->ogv.ownBlock=some g\/(w.heap.size<=g/\r.ownBlock≠some g/\s.ownBlock≠some g/\b.ownBlock≠some g))
  (x4:∀ o,ob m=some o->Bls w' 0 r o.refs/\aK w' 0 s o.slots/\aK w' 0 b o.blocks)
  (d1:∀ g,r.ownBlock=some g->s.ownBlock≠some g/\b.ownBlock≠some g) (d2:∀ g,s.ownBlock=some g->b.ownBlock≠some g) :
  ∃ d x5 x6 x2,GPt w' base d x5 x6 x2 aRd ob (m+1):=by
 obtain ⟨d,y⟩:∃ d:Nat->Option Gb,d=fun k=>if r.ownBlock=some k then some (.rb m) else if s.ownBlock=some k then some (.sl m) else if b.ownBlock=some k then some (.bl m) else L k:=⟨_,rfl⟩;have h8:∀ k,L k≠none->d k=L k:=fun k hk=>by
  have:=h.lt k hk;rw [y];simp only;rw [if_neg (fun e=>by have:=h6 k e;omega),if_neg (fun e=>by have:=h7 k e;omega),if_neg (fun e=>by have:=h0 k e;omega)]
 have h9:∀ k,d k≠none->L k≠none\/(w.heap.size<=k/\k<w'.heap.size):=fun k hk=>by
  rw [y] at hk;simp only at hk
  by_cases e1:r.ownBlock=some k
  ·exact .inr (h6 k e1)
  rw [if_neg e1] at hk
  by_cases e2:s.ownBlock=some k
  ·exact .inr (h7 k e2)
  rw [if_neg e2] at hk
  by_cases e3:b.ownBlock=some k
  ·exact .inr (h0 k e3)
  rw [if_neg e3] at hk;exact .inl hk
 refine ⟨d,fun k=>if k=m then r else rv k,fun k=>if k=m then s else sv k,fun k=>if k=m then b else bv k,?_,fun g z=>?_,fun k hk=>?_,fun i hi o ho=>?_⟩
 ·have e:jK (fun i j=>nT (ob i) (if (i:Int)=m then r else rv i) (if (i:Int)=m then s else sv i) (if (i:Int)=m then b else bv i) j) (m+1)=jK (fun i j=>nT (ob i) (rv i) (sv i) (bv i) j) m ++ [nT (ob m) r s b 0,nT (ob m) r s b 1,nT (ob m) r s b 2,nT (ob m) r s b 3,nT (ob m) r s b 4]:=by
   rw [aEU];simp only [if_true];congr 1;exact aDA (fun i hi j=>by
    have:¬ ((i:Int)=(m:Int)):=by omega
    simp only [if_neg this])
  rw [e];exact x1
 ·rcases x3 g z with h1|⟨h1,h2,h3,h4⟩
  ·have h2:=h.og g h1;have h3:=World.ownsRow.lt h.row g h1;rw [y];simp only;rw [if_neg (fun e=>by have:=h6 g e;omega),if_neg (fun e=>by have:=h7 g e;omega),if_neg (fun e=>by have:=h0 g e;omega)];exact h2
  have h5:L g=none:=by
   cases e:L g with
   | none=>rfl
   | some ℓ=>have:=h.lt g (by rw [e];simp);omega
  rw [y];simp only;rw [if_neg h2,if_neg h3,if_neg h4];exact h5
 ·rcases h9 k hk with e|e
  ·have:=h.lt k e;have:=hO.size;omega
  omega
 by_cases e:i=m
 ·subst e;simp only [if_true];obtain ⟨h1,h2,h3⟩:=x4 o ho;refine ⟨h1,fun g z=>?_,h2,fun g z=>?_,h3,fun g z=>?_⟩
  ·rw [y];simp only;rw [if_pos z]
  ·rw [y];simp only;rw [if_neg (fun e=>(d1 g e).1 z),if_pos z]
  rw [y];simp only;rw [if_neg (fun e=>(d1 g e).2 z),if_neg (fun e=>d2 g e z),if_pos z]
 have e2:¬ ((i:Int)=(m:Int)):=by omega
 simp only [if_neg e2];refine ((h.th i (by omega) o ho).only hO (fun x hx=>?_)).lab h8;have:L x=none:=by
  rcases hx with hx|hx
  ·exact h.og x hx
  cases e:L x with
  | none=>rfl
  | some ℓ=>have:=h.lt x (by rw [e];simp);omega
 rw [this];exact ⟨by simp,by simp,by simp⟩
theorem GPt.done {q k c l hb T:Nat} {P:Pl} {v:Nat} (h:GPt w base L rv sv bv ogv ob 193) (hk:∀ h o,ob h=some o->1<=h/\h<=192) (hp:eH w q k c l P) (hr:Row w hb T [ogv,.pointer (some ⟨q,0,none⟩)])
  (h1:v<=q/\v<=k/\v<=c/\v<=l/\v<=hb) (h2:q<base/\k<base/\c<base/\l<base/\hb<base) (d1:q≠hb/\k≠hb/\c≠hb/\l≠hb) :
  ∃ L' X',bH w L' hb ⟨P,ob⟩ X'/\(∀ k,L' k≠none->v<=k):=by
 obtain ⟨n1,n2,n3,n4,n5,n6⟩:=hp.ne;obtain ⟨_,_,_,_,_,_,_,_,_,f1,f2,f3,f4⟩:=hp.facts;obtain ⟨e1,e2,e3,e4⟩:=d1;rcases h.row.2 with ⟨_,h0⟩|⟨d,oc,h6,rfl,x1,hh,h8,hm,hs,ht⟩
 ·omega
 have x2:=(Array.getElem?_eq_some_iff.1 hh).1;obtain ⟨L',y⟩:∃ L':Nat->Option Gb,L'=fun j=>if j=hb then some .mem else if j=d then some .objs else if j=q then some .pq else if j=k then some .pk else if j=c then some .pc else if j=l then some .pl else L j:=⟨_,rfl⟩;have h3:∀ j,L' j≠none->j=hb\/j=d\/j=q\/j=k\/j=c\/j=l\/L j≠none:=fun j z=>by
  rw [y] at z;simp only at z
  by_cases a1:j=hb
  ·exact .inl a1
  by_cases a2:j=d
  ·exact .inr (.inl a2)
  by_cases a3:j=q
  ·exact .inr (.inr (.inl a3))
  by_cases a4:j=k
  ·exact .inr (.inr (.inr (.inl a4)))
  by_cases a5:j=c
  ·exact .inr (.inr (.inr (.inr (.inl a5))))
  by_cases a6:j=l
  ·exact .inr (.inr (.inr (.inr (.inr (.inl a6)))))
  simp only [a1,a2,a3,a4,a5,a6,if_false] at z;exact .inr (.inr (.inr (.inr (.inr (.inr z)))))
 have h4:∀ j,L j≠none->L' j=L j:=fun j z=>by
  have h9:=h.lt j z;have h7:j≠d:=fun e=>z (by rw [e];exact h.og d rfl);rw [y];simp only;rw [if_neg (by omega),if_neg h7,if_neg (by omega),if_neg (by omega),if_neg (by omega),if_neg (by omega)]
 have h5:d≠hb/\q≠d/\k≠d/\c≠d/\l≠d:=⟨by omega,by omega,by omega,by omega,by omega⟩;obtain ⟨o1,o2,o3,o4,o5⟩:=h5;have x3:=hr.lt;refine ⟨L',⟨q,k,c,l,d,oc,rv,sv,bv⟩,⟨fun j z=>?_,⟨T,hr⟩,by rw [y];simp,hp,by rw [y];simp [*],by rw [y];simp [*,Ne.symm n1],by rw [y];simp [*,Ne.symm n2,Ne.symm n4],by rw [y];simp [*,Ne.symm n3,Ne.symm n5,Ne.symm n6],⟨217,h6.toList,?_,fun i hi j z=>?_⟩,by rw [y];simp [*],fun x o hx=>?_⟩,fun j z=>?_⟩
 ·rcases h3 j z with rfl|rfl|rfl|rfl|rfl|rfl|e
  ·assumption
  ·assumption
  ·assumption
  ·assumption
  ·assumption
  ·assumption
  exact (h.lt j e).2
 ·unfold Row;rw [hh]
 ·have hg:=aKC (F:=fun i j=>nT (ob i) (rv i) (sv i) (bv i) j) hi z;rw [<-ht,List.getElem?_take_of_lt (by omega)] at hg;exact hg
 ·obtain ⟨a1,a2⟩:=hk x o hx;obtain ⟨i,rfl⟩:∃ i:Nat,x=i:=⟨x.toNat,by omega⟩;exact (h.th i (by omega) o hx).lab h4
 rcases h3 j z with rfl|rfl|rfl|rfl|rfl|rfl|e
 ·exact h1.2.2.2.2
 ·omega
 ·exact h1.1
 ·exact h1.2.1
 ·exact h1.2.2.1
 ·exact h1.2.2.2.1
 have:=(h.lt j e).1;omega
end
theorem zH {wr wX wY w4:World} {L:Nat->Option Gb} {rv sv bv:Int->Value} {ob:Int->Option Th} {m c T gg y:Nat} {z x9 r s b:Value} {h1:List Value} (x8:GPt wr w4.heap.size L rv sv bv z ob m) (hc:c<w4.heap.size) (y0:Row wr c T [z,x9]) (h4:Only [c] w4 wr) (hX:Only [] wr wX)
  (y3:h1=[nT (ob m) r s b 0,nT (ob m) r s b 1,nT (ob m) r s b 2,nT (ob m) r s b 3,nT (ob m) r s b 4])
  (h9:wY.ownsRow w4.heap.size 217 5 (.slice (some ⟨gg,0,none⟩) (m+1) y) (m+1) (jK (fun i j=>nT (ob i) (rv i) (sv i) (bv i) j) m ++ h1))
  (h8:(wX.alloc (.cells h1.toArray 217)).drew.grownBy wY z.ownBlock) (y6:z.ownBlock=some gg\/gg=wX.heap.size+1) (z3:gg<wY.heap.size)
  (h6:∀ k,r.ownBlock=some k->wr.heap.size<=k/\k<wX.heap.size) (h7:∀ k,s.ownBlock=some k->wr.heap.size<=k/\k<wX.heap.size) (h5:∀ k,b.ownBlock=some k->wr.heap.size<=k/\k<wX.heap.size)
  (y9:∀ o,ob m=some o->Bls wX 0 r o.refs/\aK wX 0 s o.slots/\aK wX 0 b o.blocks)
  (d1:∀ g,r.ownBlock=some g->s.ownBlock≠some g/\b.ownBlock≠some g) (d2:∀ g,s.ownBlock=some g->b.ownBlock≠some g) :
  ∃ L' x6 x7 x2,GPt (wY.setCell ⟨c,0,none⟩ (.slice (some ⟨gg,0,none⟩) (m+1) y)) w4.heap.size L' x6 x7 x2 (.slice (some ⟨gg,0,none⟩) (m+1) y) ob (m+1)/\
   Row (wY.setCell ⟨c,0,none⟩ (.slice (some ⟨gg,0,none⟩) (m+1) y)) c T [.slice (some ⟨gg,0,none⟩) (m+1) y,x9]/\Only [c] w4 (wY.setCell ⟨c,0,none⟩ (.slice (some ⟨gg,0,none⟩) (m+1) y)):=by
 have x4:=World.ownsRow.lt x8.row;have y8:=h4.size;have z2:=hX.size;have y5:Only [] wr (wX.alloc (.cells h1.toArray 217)).drew:=(hX.alloc _).drew;have z1:=h8.size;have z0:(wX.alloc (.cells h1.toArray 217)).drew.heap.size=wX.heap.size+1:=by simp
 have x1:Only z.ownBlock.toList (wX.alloc (.cells h1.toArray 217)).drew wY:=(Only.refl _ _).grown h8 (fun k d=>.inl (by rw [d];simp));have h3:∀ x,x∈z.ownBlock.toList->z.ownBlock=some x:=fun x hx=>by simpa using hx
 have x5:Only z.ownBlock.toList wr wY:=(y5.mono (G:=z.ownBlock.toList) (by simp)).trans x1 (fun x hx=>.inl hx);have y7:c∉z.ownBlock.toList:=fun hx=>by have:=(x4 c (h3 c hx)).1;omega
 have y2:=x5.row y0 y7;have h2:∀ k,wr.heap.size<=k->k∉z.ownBlock.toList:=fun k d hx=>by have:=(x4 k (h3 k hx)).2;omega
 have x3:∀ k,wr.heap.size<=k->k∉[c]:=fun k d hx=>by simp at hx;omega
 have h0:Only [c] wY (wY.setCell ⟨c,0,none⟩ (.slice (some ⟨gg,0,none⟩) (m+1) y)):=(Only.refl _ _).set (p:=⟨c,0,none⟩) (.inl (by simp)) _;obtain ⟨L',x6,x7,x2,hN⟩:=x8.next (w':=wY.setCell ⟨c,0,none⟩ (.slice (some ⟨gg,0,none⟩) (m+1) y)) (aRd:=.slice (some ⟨gg,0,none⟩) (m+1) y) (r:=r) (s:=s) (b:=b) y8
  ((x5.toP (S:=fun k=>z.ownBlock=some k\/k<w4.heap.size) (fun x hx=>.inl (.inl (h3 x hx)))).set (p:=⟨c,0,none⟩) (.inl (.inr hc)) _)
  (by
   rw [<-y3];refine ⟨h9.1,h9.2.imp id (fun ⟨g,cap,y4,hv,hg,hh,y1⟩=>⟨g,cap,y4,hv,hg,?_,y1⟩)⟩;rw [h0.block g (Array.getElem?_eq_some_iff.1 hh).1 (by simp;omega)];exact hh)
  (fun k d=>⟨(h6 k d).1,by have:=h6 k d;have:=h0.size;omega⟩) (fun k d=>⟨(h7 k d).1,by have:=h7 k d;have:=h0.size;omega⟩) (fun k d=>⟨(h5 k d).1,by have:=h5 k d;have:=h0.size;omega⟩)
  (fun g hg=>by
   obtain rfl:gg=g:=by simpa [Value.ownBlock] using hg
   rcases y6 with e|e
   ·exact .inl e
   exact .inr ⟨by omega,fun x=>by have:=h6 _ x;omega,fun x=>by have:=h7 _ x;omega,fun x=>by have:=h5 _ x;omega⟩)
  (fun o ho=>by
   obtain ⟨a1,a2,a3⟩:=y9 o ho;exact ⟨(((a1.alloc (.cells h1.toArray 217)).drew.only x1 (fun k d=>h2 k (h6 k d).1)).only h0 (fun k d=>x3 k (h6 k d).1)),
    (((a2.alloc (.cells h1.toArray 217)).drew.only x1 (fun k d=>h2 k (h7 k d).1)).only h0 (fun k d=>x3 k (h7 k d).1)),
    (((a3.alloc (.cells h1.toArray 217)).drew.only x1 (fun k d=>h2 k (h5 k d).1)).only h0 (fun k d=>x3 k (h5 k d).1))⟩) d1 d2
 exact ⟨L',x6,x7,x2,hN,y2.set 0 _,(h4.trans x5 (fun x hx=>.inr (x4 x (h3 x hx)).1)).set (p:=⟨c,0,none⟩) (.inl (by simp)) _⟩
theorem wV {w:World} {ops:Array Oper} {y:List Oper} {o:Oper} {a:Act} {Q:Exit->Act->World->Prop} (z:o.guard=none) (s x:Operand)
  (ho:o.op=.call { callee:=.builtin .append,args:=#[s,x],argTypes:=#[50,50] }) (w0:World) (hO:Only [] w0 w)
  (e:Nat) (hs:a.eval s=.slice (some ⟨e,0,none⟩) 0 0) (d:Bls w w0.heap.size (.slice (some ⟨e,0,none⟩) 0 0) []) (va:Option Addr) (n vc:Nat) (l:List Bool) (hx:a.eval x=.slice va n vc) (hl:l.length=n) (hv:aAw w0 (.slice va n vc) l) (hb:n<=1000000)
  (h:∀ g cap w',Hid (Bls w' w0.heap.size (.slice (some ⟨g,0,none⟩) n cap) l)->Hid (Only [] w0 w')->wpList Tryz.prog ops Q y (a.put o.dst (.slice (some ⟨g,0,none⟩) n cap)) w'):wpList Tryz.prog ops Q (o :: y) a w:=by
 refine wpList_plain z fun K hK=>?_;have h1:=qP (ops:=ops) (K:=K) (Q:=Q) (E:=True) z s x ho w0 hO e hs d va n vc l hx hl hv hb (fun g cap w' k1 k2 _ _=>hK _ _ (h g cap w' k1 k2));rwa [if_pos (by simp [Region.wanted,z])] at h1
theorem gQ {w:World} {ops:Array Oper} {e:List Oper} {o:Oper} {a:Act} {Q:Exit->Act->World->Prop} (h8:o.guard=none) (s x:Operand)
  (ho:o.op=.call { callee:=.builtin .append,args:=#[s,x],argTypes:=#[23,23] }) (w0:World) (hO:Only [] w0 w)
  (gs:Nat) (hs:a.eval s=.slice (some ⟨gs,0,none⟩) 0 0) (z:aK w w0.heap.size (.slice (some ⟨gs,0,none⟩) 0 0) []) (va:Option Addr) (n vc:Nat) (l:List Int) (hx:a.eval x=.slice va n vc) (hl:l.length=n) (hv:pR w0 (.slice va n vc) l) (hb:n<=1000000)
  (h:∀ g cap w',Hid (aK w' w0.heap.size (.slice (some ⟨g,0,none⟩) n cap) l)->Hid (Only [] w0 w')->wpList Tryz.prog ops Q e (a.put o.dst (.slice (some ⟨g,0,none⟩) n cap)) w'):wpList Tryz.prog ops Q (o :: e) a w:=by
 refine wpList_plain h8 fun K hK=>?_;obtain ⟨i0,h5,h9,x1,x2⟩:=info_parts jV
 by_cases h0:n=0
 ·subst h0;have h6:l=[]:=List.eq_nil_of_length_eq_zero hl;subst h6;have h7:Src Tryz.prog i0.size 23 (.slice va 0 vc) 0 [] w:=by
   cases va with
   | none=>exact Src.ofNil w Tryz.underlying23 vc
   | some a=>exact Src.ofSlice w Tryz.underlying23 a 0 vc [] (by simp) (fun j u d=>by simp at d) (fun u d=>by simp at d)
  have hr:=run_append_nothing (P:=Tryz.prog) w 23 23 o.type 3 i0 Tryz.underlying23 h5 (some ⟨gs,0,none⟩) 0 0 (Nat.le_refl _) (.slice va 0 vc) h7;unfold Oper.wp execOp;simp only [ho,resolve,invoke,builtin,Sem.run_bind,Sem.run_pure,Result.andThen_ok,List.map_toArray,List.map_cons,List.map_nil,hs,hx,hr];exact hK _ _ (h gs 0 w z hO)
 rcases hv with ⟨rb,ro,rc,e1,e2⟩|⟨oa,rc,e1,e2⟩
 ·simp only [Value.slice.injEq] at e1;obtain ⟨rfl,_,rfl⟩:=e1;refine wp_append_lies _ s x 23 ho w0.heap.size 3 i0 _ 1 8 Tryz.underlying23 h5 h9 x1 x2 rfl (by omega) _ 0 [] hs z ⟨rb,ro,none⟩ n vc (l.map (.int .i64)) hx (by simp [hl]) (fun j u d=>?_) (fun u d=>?_) (by omega) (by simp only [maxLen];omega) (by omega) hO.size w.heap.size rfl ?_
  ·simp only [List.getElem?_map,Option.map_eq_some_iff] at d;obtain ⟨y,hy,rfl⟩:=d;have hj:=(List.getElem?_eq_some_iff.1 hy).1;have:=e2 j hj;rw [gI,hy] at this;rw [dI];exact hO.cell this (by simp)
  ·simp only [List.mem_map] at d;obtain ⟨y,_,rfl⟩:=d;rfl
  intro g cap w' h1 h2 h3 h4;rw [Nat.zero_add] at h1 ⊢;refine hK _ _ (h g cap w' ?_ (hO.grown h2 (fun k hk=>.inr (z.own k hk).1)));show aK _ _ _ _;unfold aK;rw [hl];simpa using h1
 exact absurd (by rw [<-hl,e2];rfl) h0
section
variable {L:Nat->Option Gb} {hb:Nat} {M:Hp} {X:GX}
theorem aDz (w:World) (h:bH w L hb M X) (hk:M.Ok):Calls Tryz.prog 111 #[.pointer (some ⟨hb,0,none⟩)] w fun e w'=>
  ∃ q L' X',e=.returned (.pointer (some ⟨q,0,none⟩))/\bH w' L' q M X'/\(∀ k,L' k≠none->w.heap.size<=k)/\Only [] w w':=by
 refine aF fun R hR=>?_;have h1:=fM w h;have c1:=h.cells.2.1;have h2:=nI w X.q X.k X.c X.l M.P h.pool;have H:=aA h;have HK:=aA hk;clear h hk;go_in;go_wp2_with fail;refine h1.mono ?_;rintro e _ ⟨rfl,rfl⟩;clear h1;go_wp2_with fail;refine h2.mono ?_;rintro e w3 ⟨q',k',c',l',rfl,hp,ho,u1,u2,u3,u4⟩;have f2:=aA hp;have b3:=aA ho;obtain ⟨_,_,_,_,_,_,_,_,_,v1,v2,v3,v4⟩:=hp.facts;have x7:Hid (w.heap.size<=q'/\w.heap.size<=k'/\w.heap.size<=c'/\w.heap.size<=l'/\q'<w3.heap.size/\k'<w3.heap.size/\c'<w3.heap.size/\l'<w3.heap.size):=⟨u1,u2,u3,u4,v1,v2,v3,v4⟩;clear h2 hp ho u1 u2 u3 u4 v1 v2 v3 v4 c1;go_wp2_with fail;have b7:Hid (Row (w3.alloc (.cells #[.slice none 0 0,.pointer (some ⟨q',0,none⟩)] 209)) w3.heap.size 209 [.slice none 0 0,.pointer (some ⟨q',0,none⟩)]):=Row.new w3 _ [_,_];have d9:Hid (Only [] w3 (w3.alloc (.cells #[.slice none 0 0,.pointer (some ⟨q',0,none⟩)] 209))):=(Only.refl _ _).alloc _;have b4:Hid ((w3.alloc (.cells #[.slice none 0 0,.pointer (some ⟨q',0,none⟩)] 209)).heap.size=w3.heap.size+1):=by show _=_;simp
 generalize w3.alloc (.cells #[.slice none 0 0,.pointer (some ⟨q',0,none⟩)] 209)=w4 at*;obtain ⟨c,hc⟩:∃ z,z=w3.heap.size:=⟨_,rfl⟩;rw [<-hc] at b7 b4 x7 ⊢;have HC:=aA hc;clear hc;go_loopw [4] (fun iv wr=>∃ (m:Nat) (L':Nat->Option Gb) (rv sv bv:Int->Value) (b0:Value),m<=193/\iv=.int .i64 m/\GPt wr w4.heap.size L' rv sv bv b0 M.ob m/\Row wr c 209 [b0,.pointer (some ⟨q',0,none⟩)]/\Only [c] w4 wr) (fun iv _=>193 - (intOf iv).toNat)
 case atStart=>exact ⟨0,_,_,_,_,_,by omega,rfl,GPt.nil _ _ _,b7.out,Only.refl _ _⟩
 case round=>
  clear b7;obtain ⟨m,L',rv,sv,bv,b0,hm,rfl,d0,b1,ho⟩:=hrel;obtain ⟨y5,y6,rfl⟩:∃ a d,b0=.slice a m d:=by
   rcases d0.row.2 with ⟨e,h0⟩|⟨g,cap,a6,e,_⟩
   ·exact ⟨none,0,by rw [e,h0]⟩
   exact ⟨_,_,e⟩
  have z0:=aA d0;have x5:=aA b1;have HO:=aA ho;have d7:Hid (Only [] w wr):=(b3.out.trans d9.out (by simp)).trans ho (fun x hx=>.inr (by simp at hx;rw [hx,HC.out];exact b3.out.size));have HG:=aA (H.out.aN d7.out);have c0:=HG.out.cells.1;clear d0 b1 ho
  by_cases x9:m<193
  ·have e7:(m:Int)<193:=by omega
   have i4:(0:Int)<=m:=by omega
   have x2:Hid (w4.heap.size<=wr.heap.size/\c<w4.heap.size):=⟨HO.out.size,by have:=b4.out;omega⟩;obtain ⟨i0,e1,e3,e4,e5⟩:=info_parts aJU;have I0:=aA e1;have I1:=aA e3;have I2:=aA e4;have I3:=aA e5;clear e1 e3 e4 e5
   cases h9:M.ob (m:Int) with
   | none=>
    have o0:=HG.out.obj x9 (j:=0) (by omega);have o1:=HG.out.obj x9 (j:=1) (by omega);have o2:=HG.out.obj x9 (j:=2) (by omega);have o3:=HG.out.obj x9 (j:=3) (by omega);have o4:=HG.out.obj x9 (j:=4) (by omega);rw [h9] at o0 o1 o2 o3 o4;replace o0:wr.cell? ⟨X.og,m*5,none⟩=some (.int .i64 0):=o0;replace o1:wr.cell? ⟨X.og,m*5+1,none⟩=some (.int .i64 0):=o1;replace o2:wr.cell? ⟨X.og,m*5+2,none⟩=some (.slice none 0 0):=o2;replace o3:wr.cell? ⟨X.og,m*5+3,none⟩=some (.slice none 0 0):=o3;replace o4:wr.cell? ⟨X.og,m*5+4,none⟩=some (.slice none 0 0):=o4;obtain ⟨og,z9⟩:∃ z,z=X.og:=⟨_,rfl⟩;rw [<-z9] at c0 o0 o1 o2 o3 o4;have y9:=aA h9;have h5:Hid (Row (wr.alloc (.cells #[.int .i64 0,.int .i64 0,.slice none 0 0,.slice none 0 0,.slice none 0 0] 217)) wr.heap.size 217 [.int .i64 0,.int .i64 0,.slice none 0 0,.slice none 0 0,.slice none 0 0]):=Row.new wr _ [_,_,_,_,_];have h8:Hid (Only [] wr (wr.alloc (.cells #[.int .i64 0,.int .i64 0,.slice none 0 0,.slice none 0 0,.slice none 0 0] 217))):=(Only.refl _ _).alloc _;have x3:Hid (wr.heap.size<(wr.alloc (.cells #[.int .i64 0,.int .i64 0,.slice none 0 0,.slice none 0 0,.slice none 0 0] 217)).heap.size):=by show _<_;simp
    have y0:=h5.out.cell 0 rfl;have y1:=h5.out.cell 1 rfl;have y2:=h5.out.cell 2 rfl;have y3:=h5.out.cell 3 rfl;have y4:=h5.out.cell 4 rfl;have x0:(wr.alloc (.cells #[.int .i64 0,.int .i64 0,.slice none 0 0,.slice none 0 0,.slice none 0 0] 217)).cell? ⟨c,0,none⟩=some (.slice y5 m y6):=(h8.out.row x5.out (by simp)).cell 0 rfl;clear h9 z9;go_wp2_with fail;generalize wr.alloc (.cells #[.int .i64 0,.int .i64 0,.slice none 0 0,.slice none 0 0,.slice none 0 0] 217)=wX at*;obtain ⟨y,hy⟩:∃ z,z=wr.heap.size:=⟨_,rfl⟩;have HY:=aA hy;rw [<-hy] at h5 x3 y0 y1 y2 y3 y4 ⊢;clear hy c0 o0 o1 o2 o3 o4;have x6:c<wX.heap.size:=by have:=x2.out;have:=h8.out.size;omega
    have d3:y<wX.heap.size:=x3.out;have z4:Hid (wX.ownsRow w4.heap.size 217 5 (.slice y5 m y6) m (jK (fun i j=>nT (M.ob i) (rv i) (sv i) (bv i) j) m)):=by
     have h0:=z0.out.row;refine ⟨h0.1,h0.2.imp id (fun ⟨g,cap,a6,hv,hg,hh,r⟩=>⟨g,cap,a6,hv,hg,?_,r⟩)⟩;rw [h8.out.block g (Array.getElem?_eq_some_iff.1 hh).1 (by simp)];exact hh
    have z8:∀ g,(Value.slice y5 m y6).ownBlock=some g->c≠g:=fun g hg e=>by have:=(World.ownsRow.lt z4.out g hg).1;have:=x2.out;omega
    have xf:=(h8.out.row x5.out (by simp)).free 0;have b2:Hid (w4.heap.size<=wX.heap.size):=Nat.le_trans x2.out.1 h8.out.size;have f8:=aA d3;have y7:=aA x6;go_wp2;go_region_law ((refine step_append_lies _ (by rfl) _ _ 207 (by rfl) w4.heap.size 217 i0 _ 5 88 Tryz.underlying207 I0.out I1.out I2.out I3.out rfl (by omega) _ m _ (by rfl) ((z4.out.alloc _).drew) ⟨wX.heap.size,0,none⟩ 1 1 [.int .i64 0,.int .i64 0,.slice none 0 0,.slice none 0 0,.slice none 0 0] (by rfl) (by rfl) (World.news_of_block (cs:=#[.int .i64 0,.int .i64 0,.slice none 0 0,.slice none 0 0,.slice none 0 0]) (t:=217) (fr:=(0,0)) (heap_alloc_new wX _)) (by simp [Value.oneCell']) (by omega) (by simp only [maxLen];omega) (by omega) (by have:=b2.out;simp;omega) (wX.heap.size+1) (by simp) ?_;intro gg e6 wY x1 h6 z7 x4;have c4:=(h6.cell_far ⟨c,0,none⟩ (by have:=y7.out;simp;omega) (fun e=>z8 c e.symm rfl)).trans (by simp [World.cell?_alloc_past _ _ _ x6];exact x0);have c5:=(h6.frozen_far ⟨c,0,none⟩ (by have:=y7.out;simp;omega) (fun e=>z8 c e.symm rfl)).trans (by simp [World.frozen?_alloc_past _ _ _ x6];exact xf)))
    all_goals
     obtain ⟨L9,d5,d6,c3,z1,z2,z3⟩:=zH (r:=.slice none 0 0) (s:=.slice none 0 0) (b:=.slice none 0 0) z0.out x2.out.2 x5.out HO.out h8.out (by rw [y9.out];rfl) x1 h6 z7 x4
      (fun k hk=>by cases hk) (fun k hk=>by cases hk) (fun k hk=>by cases hk) (fun o ho=>by rw [y9.out] at ho;cases ho) (fun g hg=>by cases hg) (fun g hg=>by cases hg)
     have Z1:=aA z1;have Z2:=aA z2;have Z3:=aA z3;clear z1 z2 z3 x1 h6 z7 x4 c4 c5;go_wp2;exact ⟨⟨m+1,L9,d5,d6,c3,_,by omega,by go_num,Z1.out,Z2.out,Z3.out⟩,by simp [intOf];omega⟩
   | some o=>
    obtain ⟨o0,o1,o2,o3,o4⟩:=HG.out.iR x9 h9;have th:=HG.out.th (m:Int) o h9;obtain ⟨ra,rc,re⟩:=th.rb.len;obtain ⟨sa,sc,se⟩:=th.sl.len;obtain ⟨ba,bc,be⟩:=th.bl.len;have a8:=th.rb;have a9:=th.sl;have a7:=th.bl;rw [re] at o2 a8;rw [se] at o3 a9;rw [be] at o4 a7;have g4:(o.kind != 0)=true:=by
     have:=(HK.out.th _ o h9).kd;simp;omega
    have g5:=(HK.out.th _ o h9).le;have g7:=(HK.out.th _ o h9).rl;have g0:=(HK.out.aAu h9).2.1;obtain ⟨rn,d1⟩:∃ z,z=o.refs.length:=⟨_,rfl⟩;obtain ⟨sn,d2⟩:∃ z,z=o.slots.length:=⟨_,rfl⟩;obtain ⟨bn,c6⟩:∃ z,z=o.blocks.length:=⟨_,rfl⟩;obtain ⟨kd,c2⟩:∃ z,z=o.kind:=⟨_,rfl⟩;obtain ⟨cl,b6⟩:∃ z,z=o.cls:=⟨_,rfl⟩;have g6:rn<=1000000:=by omega
    have g8:sn<=1000000:=by omega
    have f9:bn<=1000000:=by omega
    rw [<-d1] at o2 a8;rw [<-d2] at o3 a9;rw [<-c6] at o4 a7;rw [<-c2] at o0 g4;rw [<-b6] at o1;have f5:Hid (o.refs.length=rn):=d1.symm;have f7:Hid (o.slots.length=sn):=d2.symm;have e9:Hid (o.blocks.length=bn):=c6.symm;have f1:Hid (o.kind=kd):=c2.symm;have f0:Hid (o.cls=cl):=b6.symm;have y9:=aA h9;have f4:=aA a8;have f6:=aA a9;have e8:=aA a7;obtain ⟨og,z9⟩:∃ z,z=X.og:=⟨_,rfl⟩;rw [<-z9] at c0 o0 o1 o2 o3 o4;have a5:Hid (Row (wr.alloc (.cells #[.int .i64 kd,.int .i64 cl,.slice ra rn rc,.slice sa sn sc,.slice ba bn bc] 217)) wr.heap.size 217 [.int .i64 kd,.int .i64 cl,.slice ra rn rc,.slice sa sn sc,.slice ba bn bc]):=Row.new wr _ [_,_,_,_,_];have d8:Hid (Only [] wr (wr.alloc (.cells #[.int .i64 kd,.int .i64 cl,.slice ra rn rc,.slice sa sn sc,.slice ba bn bc] 217))):=(Only.refl _ _).alloc _;have b5:Hid (wr.heap.size<(wr.alloc (.cells #[.int .i64 kd,.int .i64 cl,.slice ra rn rc,.slice sa sn sc,.slice ba bn bc] 217)).heap.size):=by show _<_;simp
    have y0:=a5.out.cell 0 rfl;clear h9 z9 th re se be a8 a9 a7 d1 d2 c6 c2 b6 g5 g7 g0;go_upto_region 9 with fail;generalize wr.alloc (.cells #[.int .i64 kd,.int .i64 cl,.slice ra rn rc,.slice sa sn sc,.slice ba bn bc] 217)=wa at*;obtain ⟨y,hy⟩:∃ z,z=wr.heap.size:=⟨_,rfl⟩;have HY:=aA hy;rw [<-hy] at a5 b5 ⊢;have yA:(wa.alloc (.cells #[] 4)).cell? ⟨y,2,none⟩=some (.slice ra rn rc):=(a5.out.alloc _).cell 2 rfl;clear hy y0 c0 o0 o1 o2 o3 o4;go_wp2_with (at_builtin;refine wV rfl _ _ rfl wa ((Only.refl _ _).alloc _) _ rfl (Bls.made _) ra rn rc o.refs rfl f5.out ?q1 g6 ?q2)
    case q1=>exact f4.out.aQG.only d8.out
    case q2=>
     intro g1 h3 w5 k1 k2;clear yA;have a2:Hid (Row w5 y 217 [.int .i64 kd,.int .i64 cl,.slice ra rn rc,.slice sa sn sc,.slice ba bn bc]):=k2.out.row a5.out (by simp);have c7:=(k1.out.own g1 rfl);have h5:Hid (Row (w5.setCell ⟨y,2,none⟩ (.slice (some ⟨g1,0,none⟩) rn h3)) y 217 [.int .i64 kd,.int .i64 cl,.slice (some ⟨g1,0,none⟩) rn h3,.slice sa sn sc,.slice ba bn bc]):=a2.out.set 2 _;have x3:Hid (Only [y] w5 (w5.setCell ⟨y,2,none⟩ (.slice (some ⟨g1,0,none⟩) rn h3))):=(Only.refl _ _).set (p:=⟨y,2,none⟩) (.inl (by simp)) _;have b9:Hid (Only [] wr (w5.setCell ⟨y,2,none⟩ (.slice (some ⟨g1,0,none⟩) rn h3))):=(d8.out.trans k2.out (by simp)).set (p:=⟨y,2,none⟩) (.inr (by rw [HY.out];exact Nat.le_refl _)) _;have B6:Hid (Bls (w5.setCell ⟨y,2,none⟩ (.slice (some ⟨g1,0,none⟩) rn h3)) wa.heap.size (.slice (some ⟨g1,0,none⟩) rn h3) o.refs):=k1.out.only x3.out (fun k hk=>by cases hk;have:=b5.out;simp;omega);have i1:=a2.out.free 2;have g9:=a2.out.cell 2 rfl;have yB:((w5.setCell ⟨y,2,none⟩ (.slice (some ⟨g1,0,none⟩) rn h3)).alloc (.cells #[] 3)).cell? ⟨y,3,none⟩=some (.slice sa sn sc):=(h5.out.alloc _).cell 3 rfl;have x8:Hid (wa.heap.size<=g1/\g1<(w5.setCell ⟨y,2,none⟩ (.slice (some ⟨g1,0,none⟩) rn h3)).heap.size/\y<wa.heap.size):=⟨c7.1,Nat.lt_of_lt_of_le c7.2 x3.out.size,b5.out⟩;clear k1 k2 c7 x3 yB;go_upto_region 10 with fail;generalize w5.setCell ⟨y,2,none⟩ (.slice (some ⟨g1,0,none⟩) rn h3)=w6 at*;have yB:(w6.alloc (.cells #[] 3)).cell? ⟨y,3,none⟩=some (.slice sa sn sc):=(h5.out.alloc _).cell 3 rfl;go_wp2_with (at_builtin;refine gQ rfl _ _ rfl w6 ((Only.refl _ _).alloc _) _ rfl (aK.made _) sa sn sc o.slots rfl f7.out ?q3 g8 ?q4)
     case q3=>exact f6.out.read.aPW b9.out
     case q4=>
      intro g2 h7 w7 k1 k2;clear i1 g9 yB a2;have a3:Hid (Row w7 y 217 [.int .i64 kd,.int .i64 cl,.slice (some ⟨g1,0,none⟩) rn h3,.slice sa sn sc,.slice ba bn bc]):=k2.out.row h5.out (by simp);have c8:=(k1.out.own g2 rfl);have d4:y<w6.heap.size:=h5.out.lt;have z6:Hid (Row (w7.setCell ⟨y,3,none⟩ (.slice (some ⟨g2,0,none⟩) sn h7)) y 217 [.int .i64 kd,.int .i64 cl,.slice (some ⟨g1,0,none⟩) rn h3,.slice (some ⟨g2,0,none⟩) sn h7,.slice ba bn bc]):=a3.out.set 3 _;have a1:Hid (Only [y] w7 (w7.setCell ⟨y,3,none⟩ (.slice (some ⟨g2,0,none⟩) sn h7))):=(Only.refl _ _).set (p:=⟨y,3,none⟩) (.inl (by simp)) _;have b8:Hid (Only [] wr (w7.setCell ⟨y,3,none⟩ (.slice (some ⟨g2,0,none⟩) sn h7))):=(b9.out.trans k2.out (by simp)).set (p:=⟨y,3,none⟩) (.inr (by rw [HY.out];exact Nat.le_refl _)) _;have B8:Hid (Bls (w7.setCell ⟨y,3,none⟩ (.slice (some ⟨g2,0,none⟩) sn h7)) wa.heap.size (.slice (some ⟨g1,0,none⟩) rn h3) o.refs):=(B6.out.only k2.out (by simp)).only a1.out (fun k hk=>by cases hk;have:=x8.out;simp;omega);have I8:Hid (aK (w7.setCell ⟨y,3,none⟩ (.slice (some ⟨g2,0,none⟩) sn h7)) w6.heap.size (.slice (some ⟨g2,0,none⟩) sn h7) o.slots):=k1.out.only a1.out (fun k hk=>by cases hk;simp;omega);have i3:=a3.out.free 3;have i2:=a3.out.cell 3 rfl;have yC:((w7.setCell ⟨y,3,none⟩ (.slice (some ⟨g2,0,none⟩) sn h7)).alloc (.cells #[] 3)).cell? ⟨y,4,none⟩=some (.slice ba bn bc):=(z6.out.alloc _).cell 4 rfl;have a0:Hid (wa.heap.size<=g1/\g1<w6.heap.size/\w6.heap.size<=g2/\g2<(w7.setCell ⟨y,3,none⟩ (.slice (some ⟨g2,0,none⟩) sn h7)).heap.size/\y<wa.heap.size/\wa.heap.size<=w6.heap.size):=⟨x8.out.1,x8.out.2.1,c8.1,Nat.lt_of_lt_of_le c8.2 a1.out.size,x8.out.2.2,by have:=x8.out;omega⟩;clear k1 k2 c8 a1 B6 x8 b9 d4 yC;go_upto_region 11 with fail;generalize w7.setCell ⟨y,3,none⟩ (.slice (some ⟨g2,0,none⟩) sn h7)=w8 at*;have yC:(w8.alloc (.cells #[] 3)).cell? ⟨y,4,none⟩=some (.slice ba bn bc):=(z6.out.alloc _).cell 4 rfl;go_wp2_with (at_builtin;refine gQ rfl _ _ rfl w8 ((Only.refl _ _).alloc _) _ rfl (aK.made _) ba bn bc o.blocks rfl e9.out ?q5 f9 ?q6)
      case q5=>exact e8.out.read.aPW b8.out
      case q6=>
       intro g3 h4 w9 k1 k2;clear i3 i2 yC a3 h5;have a4:Hid (Row w9 y 217 [.int .i64 kd,.int .i64 cl,.slice (some ⟨g1,0,none⟩) rn h3,.slice (some ⟨g2,0,none⟩) sn h7,.slice ba bn bc]):=k2.out.row z6.out (by simp);have c9:=(k1.out.own g3 rfl);have d4:y<w8.heap.size:=z6.out.lt;have h5:Hid (Row (w9.setCell ⟨y,4,none⟩ (.slice (some ⟨g3,0,none⟩) bn h4)) y 217 [.int .i64 kd,.int .i64 cl,.slice (some ⟨g1,0,none⟩) rn h3,.slice (some ⟨g2,0,none⟩) sn h7,.slice (some ⟨g3,0,none⟩) bn h4]):=a4.out.set 4 _;have z5:Hid (Only [y] w9 (w9.setCell ⟨y,4,none⟩ (.slice (some ⟨g3,0,none⟩) bn h4))):=(Only.refl _ _).set (p:=⟨y,4,none⟩) (.inl (by simp)) _;have h8:Hid (Only [] wr (w9.setCell ⟨y,4,none⟩ (.slice (some ⟨g3,0,none⟩) bn h4))):=(b8.out.trans k2.out (by simp)).set (p:=⟨y,4,none⟩) (.inr (by rw [HY.out];exact Nat.le_refl _)) _;have BX:Hid (Bls (w9.setCell ⟨y,4,none⟩ (.slice (some ⟨g3,0,none⟩) bn h4)) wa.heap.size (.slice (some ⟨g1,0,none⟩) rn h3) o.refs):=(B8.out.only k2.out (by simp)).only z5.out (fun k hk=>by cases hk;have:=a0.out;simp;omega);have IX:Hid (aK (w9.setCell ⟨y,4,none⟩ (.slice (some ⟨g3,0,none⟩) bn h4)) w6.heap.size (.slice (some ⟨g2,0,none⟩) sn h7) o.slots):=(I8.out.only k2.out (by simp)).only z5.out (fun k hk=>by cases hk;have:=a0.out;simp;omega);have JX:Hid (aK (w9.setCell ⟨y,4,none⟩ (.slice (some ⟨g3,0,none⟩) bn h4)) w8.heap.size (.slice (some ⟨g3,0,none⟩) bn h4) o.blocks):=k1.out.only z5.out (fun k hk=>by cases hk;simp;omega);have i6:=a4.out.free 4;have i5:=a4.out.cell 4 rfl;have y8:Hid (wa.heap.size<=g1/\g1<w6.heap.size/\w6.heap.size<=g2/\g2<w8.heap.size/\w8.heap.size<=g3/\g3<(w9.setCell ⟨y,4,none⟩ (.slice (some ⟨g3,0,none⟩) bn h4)).heap.size/\y<wa.heap.size):=by
        have h2:=a0.out;exact ⟨h2.1,h2.2.1,h2.2.2.1,h2.2.2.2.1,c9.1,Nat.lt_of_lt_of_le c9.2 z5.out.size,h2.2.2.2.2.1⟩
       have x3:Hid (y<(w9.setCell ⟨y,4,none⟩ (.slice (some ⟨g3,0,none⟩) bn h4)).heap.size):=h5.out.lt;have y0:=h5.out.cell 0 rfl;have y1:=h5.out.cell 1 rfl;have y2:=h5.out.cell 2 rfl;have y3:=h5.out.cell 3 rfl;have y4:=h5.out.cell 4 rfl;have x0:(w9.setCell ⟨y,4,none⟩ (.slice (some ⟨g3,0,none⟩) bn h4)).cell? ⟨c,0,none⟩=some (.slice y5 m y6):=(h8.out.row x5.out (by simp)).cell 0 rfl;clear k1 k2 c9 z5 B8 I8 a0 b8 d4 z6 a4;go_upto_region 12 with fail;generalize (w9.setCell ⟨y,4,none⟩ (.slice (some ⟨g3,0,none⟩) bn h4))=wX at*;have x6:c<wX.heap.size:=by have:=x2.out;have:=h8.out.size;omega
       have d3:y<wX.heap.size:=x3.out;have z4:Hid (wX.ownsRow w4.heap.size 217 5 (.slice y5 m y6) m (jK (fun i j=>nT (M.ob i) (rv i) (sv i) (bv i) j) m)):=by
        have h0:=z0.out.row;refine ⟨h0.1,h0.2.imp id (fun ⟨g,cap,a6,hv,hg,hh,r⟩=>⟨g,cap,a6,hv,hg,?_,r⟩)⟩;rw [h8.out.block g (Array.getElem?_eq_some_iff.1 hh).1 (by simp)];exact hh
       have z8:∀ g,(Value.slice y5 m y6).ownBlock=some g->c≠g:=fun g hg e=>by have:=(World.ownsRow.lt z4.out g hg).1;have:=x2.out;omega
       have xf:=(h8.out.row x5.out (by simp)).free 0;have b2:Hid (w4.heap.size<=wX.heap.size):=Nat.le_trans x2.out.1 h8.out.size;have f8:=aA d3;have y7:=aA x6;go_wp2;go_region_law ((refine step_append_lies _ (by rfl) _ _ 207 (by rfl) w4.heap.size 217 i0 _ 5 88 Tryz.underlying207 I0.out I1.out I2.out I3.out rfl (by omega) _ m _ (by rfl) ((z4.out.alloc _).drew) ⟨wX.heap.size,0,none⟩ 1 1 [.int .i64 kd,.int .i64 cl,.slice (some ⟨g1,0,none⟩) rn h3,.slice (some ⟨g2,0,none⟩) sn h7,.slice (some ⟨g3,0,none⟩) bn h4] (by rfl) (by rfl) (World.news_of_block (cs:=#[.int .i64 kd,.int .i64 cl,.slice (some ⟨g1,0,none⟩) rn h3,.slice (some ⟨g2,0,none⟩) sn h7,.slice (some ⟨g3,0,none⟩) bn h4]) (t:=217) (fr:=(0,0)) (heap_alloc_new wX _)) (by simp [Value.oneCell']) (by omega) (by simp only [maxLen];omega) (by omega) (by have:=b2.out;simp;omega) (wX.heap.size+1) (by simp) ?_;intro gg e6 wY x1 h6 z7 x4;have c4:=(h6.cell_far ⟨c,0,none⟩ (by have:=y7.out;simp;omega) (fun e=>z8 c e.symm rfl)).trans (by simp [World.cell?_alloc_past _ _ _ x6];exact x0);have c5:=(h6.frozen_far ⟨c,0,none⟩ (by have:=y7.out;simp;omega) (fun e=>z8 c e.symm rfl)).trans (by simp [World.frozen?_alloc_past _ _ _ x6];exact xf)))
       all_goals
        obtain ⟨L9,d5,d6,c3,z1,z2,z3⟩:=zH (r:=.slice (some ⟨g1,0,none⟩) rn h3) (s:=.slice (some ⟨g2,0,none⟩) sn h7) (b:=.slice (some ⟨g3,0,none⟩) bn h4) z0.out x2.out.2 x5.out HO.out h8.out (by rw [y9.out,<-f1.out,<-f0.out];rfl) x1 h6 z7 x4
         (fun k hk=>by (obtain rfl:g1=k:=by simpa [Value.ownBlock] using hk);have:=y8.out;have:=HY.out;omega) (fun k hk=>by (obtain rfl:g2=k:=by simpa [Value.ownBlock] using hk);have:=y8.out;have:=HY.out;omega) (fun k hk=>by (obtain rfl:g3=k:=by simpa [Value.ownBlock] using hk);have:=y8.out;have:=HY.out;omega) (fun o' e2=>by rw [y9.out] at e2;cases e2;exact ⟨BX.out.base (Nat.zero_le _),IX.out.base (Nat.zero_le _),JX.out.base (Nat.zero_le _)⟩) (fun g hg=>by (obtain rfl:g1=g:=by simpa [Value.ownBlock] using hg);have:=y8.out;simp [Value.ownBlock];omega) (fun g hg=>by (obtain rfl:g2=g:=by simpa [Value.ownBlock] using hg);have:=y8.out;simp [Value.ownBlock];omega)
        have Z1:=aA z1;have Z2:=aA z2;have Z3:=aA z3;clear z1 z2 z3 x1 h6 z7 x4 c4 c5;go_wp2;exact ⟨⟨m+1,L9,d5,d6,c3,_,by omega,by go_num,Z1.out,Z2.out,Z3.out⟩,by simp [intOf];omega⟩
  obtain rfl:m=193:=by omega
  have e7:¬ ((193:Nat):Int)<193:=by omega
  have f3:=aA (((f2.out.only d9.out (by simp) (by simp) (by simp) (by simp)).only HO.out (by have:=x7.out;simp;omega) (by have:=x7.out;simp;omega) (by have:=x7.out;simp;omega) (by have:=x7.out;simp;omega)));have hb:=x7.out;have hs:=b4.out;have e0:w.heap.size<=c:=by rw [HC.out];exact b3.out.size
  obtain ⟨L9,X9,z1,z2⟩:=z0.out.done (v:=w.heap.size) HK.out.hr f3.out x5.out ⟨hb.1,hb.2.1,hb.2.2.1,hb.2.2.2.1,e0⟩ ⟨by omega,by omega,by omega,by omega,by omega⟩ ⟨by omega,by omega,by omega,by omega⟩;have Z1:=aA z1;have Z2:=aA z2;clear z1 z2 hb hs e0;go_wp2;exact hR.out _ _ ⟨c,L9,X9,rfl,Z1.out,Z2.out,d7.out⟩
end
end Go.Proofs.YthflghdaejbdkaaGreat
