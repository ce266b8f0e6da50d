/- Lemmas of this claim. -/
import Derived.Test.YthflghdaejbdkaaGreatXdOFam
import Derived.Deep.RegionLaw
namespace Go.Proofs.YthflghdaejbdkaaGreat
open Go.RowKit Go.Maps
set_option maxHeartbeats 12800000
set_option maxRecDepth 100000
set_option linter.unusedVariables false
def jC (F:Nat->Nat->Value):Nat->List Value
 | 0=>[]
 | m+1=>jC F m ++ [F m 0,F m 1,F m 2,F m 3,F m 4]
theorem aEd (F:Nat->Nat->Value) (m:Nat):jC F (m+1)=jC F m ++ [F m 0,F m 1,F m 2,F m 3,F m 4]:=rfl
theorem tK (F:Nat->Nat->Value) (m:Nat):(jC F m).length=m*5:=by
 induction m with
 | zero=>rfl
 | succ m ih=>unfold jC;rw [List.length_append,ih];simp;omega
theorem aJl {F:Nat->Nat->Value} {m i j:Nat} (hi:i<m) (hj:j<5):(jC F m)[i*5+j]?=some (F i j):=by
 induction m with
 | zero=>omega
 | succ m ih=>
  unfold jC
  by_cases e:i=m
  ·subst e;rw [List.getElem?_append_right (by rw [tK];omega),tK,show i*5+j - i*5=j by omega]
   match j,hj with
   | 0,_=>rfl
   | 1,_=>rfl
   | 2,_=>rfl
   | 3,_=>rfl
   | 4,_=>rfl
   | j+5,hj=>omega
  rw [List.getElem?_append_left (by rw [tK];omega)];exact ih (by omega)
theorem aCN {F G:Nat->Nat->Value} {m:Nat} (h:∀ i,i<m->∀ j,F i j=G i j):jC F m=jC G m:=by
 induction m with
 | zero=>rfl
 | succ m ih=>unfold jC;rw [ih (fun i hi=>h i (by omega)),h m (by omega),h m (by omega),h m (by omega),h m (by omega),h m (by omega)]
theorem nI.aOr {w w':World} {v:Value} {l:List Int} (h:nI w v l) (ho:Only [] w w'):nI w' v l:=by
 rcases h with ⟨b,o,c,h1,h2⟩|h1
 ·exact .inl ⟨b,o,c,h1,fun i hi=>ho.cell (h2 i hi) (by simp)⟩
 exact .inr h1
structure GPt (w:World) (base:Nat) (L:Nat->Option Gb) (rv sv bv:Int->Value) (ogv:Value) (ob:Int->Option Th) (m:Nat):Prop where
 row:w.ownsRow base 217 5 ogv m (jC (fun i j=>mZ (ob i) (rv i) (sv i) (bv i) j) m)
 og:∀ g,ogv.ownBlock=some g->L g=none
 lt:∀ k,L k≠none->base<=k/\k<w.heap.size
 th:∀ i:Nat,i<m->∀ o,ob i=some o->GTh w L i (rv i) (sv i) (bv i) o
section
variable {w w':World} {base:Nat} {L:Nat->Option Gb} {rv sv bv:Int->Value} {ogv aPu r s b:Value} {ob:Int->Option Th} {m:Nat}
theorem GPt.nil (w:World) (base:Nat) (ob:Int->Option Th):GPt w base (fun _=>none) (fun _=>.slice none 0 0) (fun _=>.slice none 0 0) (fun _=>.slice none 0 0) (.slice none 0 0) ob 0:=
 ⟨World.ownsRow_nil _ _ _ _,fun g hg=>rfl,fun k hk=>absurd rfl hk,fun i hi=>by omega⟩
theorem GPt.next (h:GPt w base L rv sv bv ogv ob m) (hbs:base<=w.heap.size) (hO:aI (fun k=>ogv.ownBlock=some k\/k<base) w w')
  (hrow:w'.ownsRow base 217 5 aPu (m+1) (jC (fun i j=>mZ (ob i) (rv i) (sv i) (bv i) j) m ++ [mZ (ob m) r s b 0,mZ (ob m) r s b 1,mZ (ob m) r s b 2,mZ (ob m) r s b 3,mZ (ob m) r s b 4]))
  (hor:∀ k,r.ownBlock=some k->w.heap.size<=k/\k<w'.heap.size) (hos:∀ k,s.ownBlock=some k->w.heap.size<=k/\k<w'.heap.size) (hob:∀ k,b.ownBlock=some k->w.heap.size<=k/\k<w'.heap.size)
  (hog:∀ g,aPu.ownBlock=some g->ogv.ownBlock=some g\/(w.heap.size<=g/\r.ownBlock≠some g/\s.ownBlock≠some g/\b.ownBlock≠some g))
  (hth:∀ o,ob m=some o->Bls w' 0 r o.refs/\aO w' 0 s o.slots/\aO w' 0 b o.blocks)
  (d1:∀ g,r.ownBlock=some g->s.ownBlock≠some g/\b.ownBlock≠some g) (d2:∀ g,s.ownBlock=some g->b.ownBlock≠some g) :
  ∃ L' rv' sv' bv',GPt w' base L' rv' sv' bv' aPu ob (m+1):=by
 obtain ⟨L',hL'⟩:∃ L':Nat->Option Gb,L'=fun k=>if r.ownBlock=some k then some (.rb m) else if s.ownBlock=some k then some (.sl m) else if b.ownBlock=some k then some (.bl m) else L k:=⟨_,rfl⟩;have hlab:∀ k,L k≠none->L' k=L k:=fun k hk=>by
  have:=h.lt k hk;rw [hL'];simp only;rw [if_neg (fun e=>by have:=hor k e;omega),if_neg (fun e=>by have:=hos k e;omega),if_neg (fun e=>by have:=hob k e;omega)]
 have hnew:∀ k,L' k≠none->L k≠none\/(w.heap.size<=k/\k<w'.heap.size):=fun k hk=>by
  rw [hL'] at hk;simp only at hk
  by_cases e1:r.ownBlock=some k
  ·exact .inr (hor k e1)
  rw [if_neg e1] at hk
  by_cases e2:s.ownBlock=some k
  ·exact .inr (hos k e2)
  rw [if_neg e2] at hk
  by_cases e3:b.ownBlock=some k
  ·exact .inr (hob k e3)
  rw [if_neg e3] at hk;exact .inl hk
 refine ⟨L',fun k=>if k=m then r else rv k,fun k=>if k=m then s else sv k,fun k=>if k=m then b else bv k,?_,fun g hg=>?_,fun k hk=>?_,fun i hi o ho=>?_⟩
 ·have e:jC (fun i j=>mZ (ob i) (if (i:Int)=m then r else rv i) (if (i:Int)=m then s else sv i) (if (i:Int)=m then b else bv i) j) (m+1)=jC (fun i j=>mZ (ob i) (rv i) (sv i) (bv i) j) m ++ [mZ (ob m) r s b 0,mZ (ob m) r s b 1,mZ (ob m) r s b 2,mZ (ob m) r s b 3,mZ (ob m) r s b 4]:=by
   rw [aEd];simp only [if_true];congr 1;exact aCN (fun i hi j=>by
    have:¬ ((i:Int)=(m:Int)):=by omega
    simp only [if_neg this])
  rw [e];exact hrow
 ·rcases hog g hg with h1|⟨h1,h2,h3,h4⟩
  ·have h2:=h.og g h1;have h3:=World.ownsRow.lt h.row g h1;rw [hL'];simp only;rw [if_neg (fun e=>by have:=hor g e;omega),if_neg (fun e=>by have:=hos g e;omega),if_neg (fun e=>by have:=hob g e;omega)];exact h2
  have h5:L g=none:=by
   cases e:L g with
   | none=>rfl
   | some ℓ=>have:=h.lt g (by rw [e];simp);omega
  rw [hL'];simp only;rw [if_neg h2,if_neg h3,if_neg h4];exact h5
 ·rcases hnew k hk with e|e
  ·have:=h.lt k e;have:=hO.size;omega
  omega
 by_cases e:i=m
 ·subst e;simp only [if_true];obtain ⟨h1,h2,h3⟩:=hth o ho;refine ⟨h1,fun g hg=>?_,h2,fun g hg=>?_,h3,fun g hg=>?_⟩
  ·rw [hL'];simp only;rw [if_pos hg]
  ·rw [hL'];simp only;rw [if_neg (fun e=>(d1 g e).1 hg),if_pos hg]
  rw [hL'];simp only;rw [if_neg (fun e=>(d1 g e).2 hg),if_neg (fun e=>d2 g e hg),if_pos hg]
 have e2:¬ ((i:Int)=(m:Int)):=by omega
 simp only [if_neg e2];refine ((h.th i (by omega) o ho).only hO (fun x hx=>?_)).lab hlab;have:L x=none:=by
  rcases hx with hx|hx
  ·exact h.og x hx
  cases e:L x with
  | none=>rfl
  | some ℓ=>have:=h.lt x (by rw [e];simp);omega
 rw [this];exact ⟨by simp,by simp,by simp⟩
theorem GPt.done {q k c l hb T:Nat} {P:Pl} {v:Nat} (h:GPt w base L rv sv bv ogv ob 193) (hk:∀ h o,ob h=some o->1<=h/\h<=192) (hp:eF w q k c l P) (hr:Row w hb T [ogv,.pointer (some ⟨q,0,none⟩)])
  (h1:v<=q/\v<=k/\v<=c/\v<=l/\v<=hb) (h2:q<base/\k<base/\c<base/\l<base/\hb<base) (d1:q≠hb/\k≠hb/\c≠hb/\l≠hb) :
  ∃ L' X',bF w L' hb ⟨P,ob⟩ X'/\(∀ k,L' k≠none->v<=k):=by
 obtain ⟨n1,n2,n3,n4,n5,n6⟩:=hp.ne;obtain ⟨_,_,_,_,_,_,_,_,_,f1,f2,f3,f4⟩:=hp.facts;obtain ⟨e1,e2,e3,e4⟩:=d1;rcases h.row.2 with ⟨_,h0⟩|⟨og,oc,cur,rfl,hog,hh,hcc,hm,hs,ht⟩
 ·omega
 have hol:=(Array.getElem?_eq_some_iff.1 hh).1;obtain ⟨L',hL'⟩:∃ L':Nat->Option Gb,L'=fun j=>if j=hb then some .mem else if j=og then some .objs else if j=q then some .pq else if j=k then some .pk else if j=c then some .pc else if j=l then some .pl else L j:=⟨_,rfl⟩;have hin:∀ j,L' j≠none->j=hb\/j=og\/j=q\/j=k\/j=c\/j=l\/L j≠none:=fun j hj=>by
  rw [hL'] at hj;simp only at hj
  by_cases a1:j=hb
  ·exact .inl a1
  by_cases a2:j=og
  ·exact .inr (.inl a2)
  by_cases a3:j=q
  ·exact .inr (.inr (.inl a3))
  by_cases a4:j=k
  ·exact .inr (.inr (.inr (.inl a4)))
  by_cases a5:j=c
  ·exact .inr (.inr (.inr (.inr (.inl a5))))
  by_cases a6:j=l
  ·exact .inr (.inr (.inr (.inr (.inr (.inl a6)))))
  simp only [a1,a2,a3,a4,a5,a6,if_false] at hj;exact .inr (.inr (.inr (.inr (.inr (.inr hj)))))
 have hlab:∀ j,L j≠none->L' j=L j:=fun j hj=>by
  have hjb:=h.lt j hj;have hjo:j≠og:=fun e=>hj (by rw [e];exact h.og og rfl);rw [hL'];simp only;rw [if_neg (by omega),if_neg hjo,if_neg (by omega),if_neg (by omega),if_neg (by omega),if_neg (by omega)]
 have hne1:og≠hb/\q≠og/\k≠og/\c≠og/\l≠og:=⟨by omega,by omega,by omega,by omega,by omega⟩;obtain ⟨o1,o2,o3,o4,o5⟩:=hne1;have hrb:=hr.lt;refine ⟨L',⟨q,k,c,l,og,oc,rv,sv,bv⟩,⟨fun j hj=>?_,⟨T,hr⟩,by rw [hL'];simp,hp,by rw [hL'];simp [*],by rw [hL'];simp [*,Ne.symm n1],by rw [hL'];simp [*,Ne.symm n2,Ne.symm n4],by rw [hL'];simp [*,Ne.symm n3,Ne.symm n5,Ne.symm n6],⟨217,cur.toList,?_,fun i hi j hj=>?_⟩,by rw [hL'];simp [*],fun x o hx=>?_⟩,fun j hj=>?_⟩
 ·rcases hin j hj with rfl|rfl|rfl|rfl|rfl|rfl|e
  ·assumption
  ·assumption
  ·assumption
  ·assumption
  ·assumption
  ·assumption
  exact (h.lt j e).2
 ·unfold Row;rw [hh]
 ·have hg:=aJl (F:=fun i j=>mZ (ob i) (rv i) (sv i) (bv i) j) hi hj;rw [<-ht,List.getElem?_take_of_lt (by omega)] at hg;exact hg
 ·obtain ⟨a1,a2⟩:=hk x o hx;obtain ⟨i,rfl⟩:∃ i:Nat,x=i:=⟨x.toNat,by omega⟩;exact (h.th i (by omega) o hx).lab hlab
 rcases hin j hj with rfl|rfl|rfl|rfl|rfl|rfl|e
 ·exact h1.2.2.2.2
 ·omega
 ·exact h1.1
 ·exact h1.2.1
 ·exact h1.2.2.1
 ·exact h1.2.2.2.1
 have:=(h.lt j e).1;omega
end
theorem yG {wr wX wY w4:World} {L:Nat->Option Gb} {rv sv bv:Int->Value} {ob:Int->Option Th} {m c T gg cap2:Nat} {ogv ptr r s b:Value} {tmp:List Value} (hpt:GPt wr w4.heap.size L rv sv bv ogv ob m) (hc:c<w4.heap.size) (hrow:Row wr c T [ogv,ptr]) (h4:Only [c] w4 wr) (hX:Only [] wr wX)
  (aSi:tmp=[mZ (ob m) r s b 0,mZ (ob m) r s b 1,mZ (ob m) r s b 2,mZ (ob m) r s b 3,mZ (ob m) r s b 4])
  (hown2:wY.ownsRow w4.heap.size 217 5 (.slice (some ⟨gg,0,none⟩) (m+1) cap2) (m+1) (jC (fun i j=>mZ (ob i) (rv i) (sv i) (bv i) j) m ++ tmp))
  (hgrow:(wX.alloc (.cells tmp.toArray 217)).drew.grownBy wY ogv.ownBlock) (hat:ogv.ownBlock=some gg\/gg=wX.heap.size+1) (hlt:gg<wY.heap.size)
  (hor:∀ k,r.ownBlock=some k->wr.heap.size<=k/\k<wX.heap.size) (hos:∀ k,s.ownBlock=some k->wr.heap.size<=k/\k<wX.heap.size) (hob:∀ k,b.ownBlock=some k->wr.heap.size<=k/\k<wX.heap.size)
  (hth:∀ o,ob m=some o->Bls wX 0 r o.refs/\aO wX 0 s o.slots/\aO wX 0 b o.blocks)
  (d1:∀ g,r.ownBlock=some g->s.ownBlock≠some g/\b.ownBlock≠some g) (d2:∀ g,s.ownBlock=some g->b.ownBlock≠some g) :
  ∃ L' rv' sv' bv',GPt (wY.setCell ⟨c,0,none⟩ (.slice (some ⟨gg,0,none⟩) (m+1) cap2)) w4.heap.size L' rv' sv' bv' (.slice (some ⟨gg,0,none⟩) (m+1) cap2) ob (m+1)/\
   Row (wY.setCell ⟨c,0,none⟩ (.slice (some ⟨gg,0,none⟩) (m+1) cap2)) c T [.slice (some ⟨gg,0,none⟩) (m+1) cap2,ptr]/\Only [c] w4 (wY.setCell ⟨c,0,none⟩ (.slice (some ⟨gg,0,none⟩) (m+1) cap2)):=by
 have hog:=World.ownsRow.lt hpt.row;have hsz:=h4.size;have aTq:=hX.size;have hXa:Only [] wr (wX.alloc (.cells tmp.toArray 217)).drew:=(hX.alloc _).drew;have aTp:=hgrow.size;have hszA:(wX.alloc (.cells tmp.toArray 217)).drew.heap.size=wX.heap.size+1:=by simp
 have hXY:Only ogv.ownBlock.toList (wX.alloc (.cells tmp.toArray 217)).drew wY:=(Only.refl _ _).grown hgrow (fun k hk=>.inl (by rw [hk];simp));have hmem:∀ x,x∈ogv.ownBlock.toList->ogv.ownBlock=some x:=fun x hx=>by simpa using hx
 have hrY:Only ogv.ownBlock.toList wr wY:=(hXa.mono (G:=ogv.ownBlock.toList) (by simp)).trans hXY (fun x hx=>.inl hx);have hcg:c∉ogv.ownBlock.toList:=fun hx=>by have:=(hog c (hmem c hx)).1;omega
 have aQh:=hrY.row hrow hcg;have hkeep:∀ k,wr.heap.size<=k->k∉ogv.ownBlock.toList:=fun k hk hx=>by have:=(hog k (hmem k hx)).2;omega
 have hkc:∀ k,wr.heap.size<=k->k∉[c]:=fun k hk hx=>by simp at hx;omega
 have hset:Only [c] wY (wY.setCell ⟨c,0,none⟩ (.slice (some ⟨gg,0,none⟩) (m+1) cap2)):=(Only.refl _ _).set (p:=⟨c,0,none⟩) (.inl (by simp)) _;obtain ⟨L',rv',sv',bv',hN⟩:=hpt.next (w':=wY.setCell ⟨c,0,none⟩ (.slice (some ⟨gg,0,none⟩) (m+1) cap2)) (aPu:=.slice (some ⟨gg,0,none⟩) (m+1) cap2) (r:=r) (s:=s) (b:=b) hsz
  ((hrY.toP (S:=fun k=>ogv.ownBlock=some k\/k<w4.heap.size) (fun x hx=>.inl (.inl (hmem x hx)))).set (p:=⟨c,0,none⟩) (.inl (.inr hc)) _)
  (by
   rw [<-aSi];refine ⟨hown2.1,hown2.2.imp id (fun ⟨g,cap,cur,hv,hg,hh,rest⟩=>⟨g,cap,cur,hv,hg,?_,rest⟩)⟩;rw [hset.block g (Array.getElem?_eq_some_iff.1 hh).1 (by simp;omega)];exact hh)
  (fun k hk=>⟨(hor k hk).1,by have:=hor k hk;have:=hset.size;omega⟩) (fun k hk=>⟨(hos k hk).1,by have:=hos k hk;have:=hset.size;omega⟩) (fun k hk=>⟨(hob k hk).1,by have:=hob k hk;have:=hset.size;omega⟩)
  (fun g hg=>by
   obtain rfl:gg=g:=by simpa [Value.ownBlock] using hg
   rcases hat with e|e
   ·exact .inl e
   exact .inr ⟨by omega,fun x=>by have:=hor _ x;omega,fun x=>by have:=hos _ x;omega,fun x=>by have:=hob _ x;omega⟩)
  (fun o ho=>by
   obtain ⟨a1,a2,a3⟩:=hth o ho;exact ⟨(((a1.alloc (.cells tmp.toArray 217)).drew.only hXY (fun k hk=>hkeep k (hor k hk).1)).only hset (fun k hk=>hkc k (hor k hk).1)),
    (((a2.alloc (.cells tmp.toArray 217)).drew.only hXY (fun k hk=>hkeep k (hos k hk).1)).only hset (fun k hk=>hkc k (hos k hk).1)),
    (((a3.alloc (.cells tmp.toArray 217)).drew.only hXY (fun k hk=>hkeep k (hob k hk).1)).only hset (fun k hk=>hkc k (hob k hk).1))⟩) d1 d2
 exact ⟨L',rv',sv',bv',hN,aQh.set 0 _,(h4.trans hrY (fun x hx=>.inr (hog x (hmem x hx)).1)).set (p:=⟨c,0,none⟩) (.inl (by simp)) _⟩
theorem vU {w:World} {ops:Array Oper} {rest:List Oper} {o:Oper} {a:Act} {Q:Exit->Act->World->Prop} (hgd:o.guard=none) (s x:Operand)
  (ho:o.op=.call { callee:=.builtin .append,args:=#[s,x],argTypes:=#[50,50] }) (w0:World) (hO:Only [] w0 w)
  (gs:Nat) (hs:a.eval s=.slice (some ⟨gs,0,none⟩) 0 0) (hown:Bls w w0.heap.size (.slice (some ⟨gs,0,none⟩) 0 0) []) (va:Option Addr) (n vc:Nat) (l:List Bool) (hx:a.eval x=.slice va n vc) (hl:l.length=n) (hv:aAx w0 (.slice va n vc) l) (hb:n<=1000000)
  (h:∀ g cap w',Hid (Bls w' w0.heap.size (.slice (some ⟨g,0,none⟩) n cap) l)->Hid (Only [] w0 w')->wpList Tryz.prog ops Q rest (a.put o.dst (.slice (some ⟨g,0,none⟩) n cap)) w'):wpList Tryz.prog ops Q (o :: rest) a w:=by
 refine wpList_plain hgd fun K hK=>?_;have h1:=pX (ops:=ops) (K:=K) (Q:=Q) (E:=True) hgd s x ho w0 hO gs hs hown va n vc l hx hl hv hb (fun g cap w' k1 k2 _ _=>hK _ _ (h g cap w' k1 k2));rwa [if_pos (by simp [Region.wanted,hgd])] at h1
theorem fQ {w:World} {ops:Array Oper} {rest:List Oper} {o:Oper} {a:Act} {Q:Exit->Act->World->Prop} (hgd:o.guard=none) (s x:Operand)
  (ho:o.op=.call { callee:=.builtin .append,args:=#[s,x],argTypes:=#[23,23] }) (w0:World) (hO:Only [] w0 w)
  (gs:Nat) (hs:a.eval s=.slice (some ⟨gs,0,none⟩) 0 0) (hown:aO w w0.heap.size (.slice (some ⟨gs,0,none⟩) 0 0) []) (va:Option Addr) (n vc:Nat) (l:List Int) (hx:a.eval x=.slice va n vc) (hl:l.length=n) (hv:nI w0 (.slice va n vc) l) (hb:n<=1000000)
  (h:∀ g cap w',Hid (aO w' w0.heap.size (.slice (some ⟨g,0,none⟩) n cap) l)->Hid (Only [] w0 w')->wpList Tryz.prog ops Q rest (a.put o.dst (.slice (some ⟨g,0,none⟩) n cap)) w'):wpList Tryz.prog ops Q (o :: rest) a w:=by
 refine wpList_plain hgd fun K hK=>?_;obtain ⟨i0,hi0,hz0,hz1,hz2⟩:=info_parts jR
 by_cases h0:n=0
 ·subst h0;have hnil:l=[]:=List.eq_nil_of_length_eq_zero hl;subst hnil;have hsrc:Src Tryz.prog i0.size 23 (.slice va 0 vc) 0 [] w:=by
   cases va with
   | none=>exact Src.ofNil w Tryz.underlying23 vc
   | some a=>exact Src.ofSlice w Tryz.underlying23 a 0 vc [] (by simp) (fun j u hu=>by simp at hu) (fun u hu=>by simp at hu)
  have hr:=run_append_nothing (P:=Tryz.prog) w 23 23 o.type 3 i0 Tryz.underlying23 hi0 (some ⟨gs,0,none⟩) 0 0 (Nat.le_refl _) (.slice va 0 vc) hsrc;unfold Oper.wp execOp;simp only [ho,resolve,invoke,builtin,Sem.run_bind,Sem.run_pure,Result.andThen_ok,List.map_toArray,List.map_cons,List.map_nil,hs,hx,hr];exact hK _ _ (h gs 0 w hown hO)
 rcases hv with ⟨rb,ro,rc,e1,e2⟩|⟨oa,rc,e1,e2⟩
 ·simp only [Value.slice.injEq] at e1;obtain ⟨rfl,_,rfl⟩:=e1;refine wp_append_lies _ s x 23 ho w0.heap.size 3 i0 _ 1 8 Tryz.underlying23 hi0 hz0 hz1 hz2 rfl (by omega) _ 0 [] hs hown ⟨rb,ro,none⟩ n vc (l.map (.int .i64)) hx (by simp [hl]) (fun j u hu=>?_) (fun u hu=>?_) (by omega) (by simp only [maxLen];omega) (by omega) hO.size w.heap.size rfl ?_
  ·simp only [List.getElem?_map,Option.map_eq_some_iff] at hu;obtain ⟨y,hy,rfl⟩:=hu;have hj:=(List.getElem?_eq_some_iff.1 hy).1;have:=e2 j hj;rw [gI,hy] at this;rw [dG];exact hO.cell this (by simp)
  ·simp only [List.mem_map] at hu;obtain ⟨y,_,rfl⟩:=hu;rfl
  intro g cap w' h1 h2 h3 h4;rw [Nat.zero_add] at h1 ⊢;refine hK _ _ (h g cap w' ?_ (hO.grown h2 (fun k hk=>.inr (hown.own k hk).1)));show aO _ _ _ _;unfold aO;rw [hl];simpa using h1
 exact absurd (by rw [<-hl,e2];rfl) h0
section
variable {L:Nat->Option Gb} {hb:Nat} {M:Hp} {X:GX}
theorem aCM (w:World) (h:bF w L hb M X) (hk:M.Ok):Calls Tryz.prog 111 #[.pointer (some ⟨hb,0,none⟩)] w fun e w'=>
  ∃ q L' X',e=.returned (.pointer (some ⟨q,0,none⟩))/\bF w' L' q M X'/\(∀ k,L' k≠none->w.heap.size<=k)/\Only [] w w':=by
 refine aF fun R hR=>?_;have h1:=fA w h;have c1:=h.cells.2.1;have h2:=mJ w X.q X.k X.c X.l M.P h.pool;have H:=aA h;have HK:=aA hk;clear h hk;go_in;go_wp2_with fail;refine h1.mono ?_;rintro e _ ⟨rfl,rfl⟩;clear h1;go_wp2_with fail;refine h2.mono ?_;rintro e w3 ⟨q',k',c',l',rfl,hp,ho,u1,u2,u3,u4⟩;have HP3:=aA hp;have HO3:=aA ho;obtain ⟨_,_,_,_,_,_,_,_,_,v1,v2,v3,v4⟩:=hp.facts;have HB3:Hid (w.heap.size<=q'/\w.heap.size<=k'/\w.heap.size<=c'/\w.heap.size<=l'/\q'<w3.heap.size/\k'<w3.heap.size/\c'<w3.heap.size/\l'<w3.heap.size):=⟨u1,u2,u3,u4,v1,v2,v3,v4⟩;clear h2 hp ho u1 u2 u3 u4 v1 v2 v3 v4 c1;go_wp2_with fail;have aNK:Hid (Row (w3.alloc (.cells #[.slice none 0 0,.pointer (some ⟨q',0,none⟩)] 209)) w3.heap.size 209 [.slice none 0 0,.pointer (some ⟨q',0,none⟩)]):=Row.new w3 _ [_,_];have aRP:Hid (Only [] w3 (w3.alloc (.cells #[.slice none 0 0,.pointer (some ⟨q',0,none⟩)] 209))):=(Only.refl _ _).alloc _;have HS4:Hid ((w3.alloc (.cells #[.slice none 0 0,.pointer (some ⟨q',0,none⟩)] 209)).heap.size=w3.heap.size+1):=by show _=_;simp
 generalize w3.alloc (.cells #[.slice none 0 0,.pointer (some ⟨q',0,none⟩)] 209)=w4 at*;obtain ⟨c,hc⟩:∃ z,z=w3.heap.size:=⟨_,rfl⟩;rw [<-hc] at aNK HS4 HB3 ⊢;have HC:=aA hc;clear hc;go_loopw [4] (fun iv wr=>∃ (m:Nat) (L':Nat->Option Gb) (rv sv bv:Int->Value) (ogv:Value),m<=193/\iv=.int .i64 m/\GPt wr w4.heap.size L' rv sv bv ogv M.ob m/\Row wr c 209 [ogv,.pointer (some ⟨q',0,none⟩)]/\Only [c] w4 wr) (fun iv _=>193 - (intOf iv).toNat)
 case atStart=>exact ⟨0,_,_,_,_,_,by omega,rfl,GPt.nil _ _ _,aNK.out,Only.refl _ _⟩
 case round=>
  clear aNK;obtain ⟨m,L',rv,sv,bv,ogv,hm,rfl,hpt,hrow,ho⟩:=hrel;obtain ⟨ova,ovc,rfl⟩:∃ a d,ogv=.slice a m d:=by
   rcases hpt.row.2 with ⟨e,h0⟩|⟨g,cap,cur,e,_⟩
   ·exact ⟨none,0,by rw [e,h0]⟩
   exact ⟨_,_,e⟩
  have HPT:=aA hpt;have HRC:=aA hrow;have HO:=aA ho;have HOW:Hid (Only [] w wr):=(HO3.out.trans aRP.out (by simp)).trans ho (fun x hx=>.inr (by simp at hx;rw [hx,HC.out];exact HO3.out.size));have HG:=aA (H.out.aN HOW.out);have c0:=HG.out.cells.1;clear hpt hrow ho
  by_cases hlt:m<193
  ·have hlt1:(m:Int)<193:=by omega
   have hm0:(0:Int)<=m:=by omega
   have HBW:Hid (w4.heap.size<=wr.heap.size/\c<w4.heap.size):=⟨HO.out.size,by have:=HS4.out;omega⟩;obtain ⟨i0,hi0,hz0,hz1,hz2⟩:=info_parts aIE;have I0:=aA hi0;have I1:=aA hz0;have I2:=aA hz1;have I3:=aA hz2;clear hi0 hz0 hz1 hz2
   cases hob:M.ob (m:Int) with
   | none=>
    have o0:=HG.out.obj hlt (j:=0) (by omega);have o1:=HG.out.obj hlt (j:=1) (by omega);have o2:=HG.out.obj hlt (j:=2) (by omega);have o3:=HG.out.obj hlt (j:=3) (by omega);have o4:=HG.out.obj hlt (j:=4) (by omega);rw [hob] at o0 o1 o2 o3 o4;replace o0:wr.cell? ⟨X.og,m*5,none⟩=some (.int .i64 0):=o0;replace o1:wr.cell? ⟨X.og,m*5+1,none⟩=some (.int .i64 0):=o1;replace o2:wr.cell? ⟨X.og,m*5+2,none⟩=some (.slice none 0 0):=o2;replace o3:wr.cell? ⟨X.og,m*5+3,none⟩=some (.slice none 0 0):=o3;replace o4:wr.cell? ⟨X.og,m*5+4,none⟩=some (.slice none 0 0):=o4;obtain ⟨og,hog⟩:∃ z,z=X.og:=⟨_,rfl⟩;rw [<-hog] at c0 o0 o1 o2 o3 o4;have HOB:=aA hob;have HY6:Hid (Row (wr.alloc (.cells #[.int .i64 0,.int .i64 0,.slice none 0 0,.slice none 0 0,.slice none 0 0] 217)) wr.heap.size 217 [.int .i64 0,.int .i64 0,.slice none 0 0,.slice none 0 0,.slice none 0 0]):=Row.new wr _ [_,_,_,_,_];have HO6:Hid (Only [] wr (wr.alloc (.cells #[.int .i64 0,.int .i64 0,.slice none 0 0,.slice none 0 0,.slice none 0 0] 217))):=(Only.refl _ _).alloc _;have HS6:Hid (wr.heap.size<(wr.alloc (.cells #[.int .i64 0,.int .i64 0,.slice none 0 0,.slice none 0 0,.slice none 0 0] 217)).heap.size):=by show _<_;simp
    have y0:=HY6.out.cell 0 rfl;have y1:=HY6.out.cell 1 rfl;have y2:=HY6.out.cell 2 rfl;have y3:=HY6.out.cell 3 rfl;have y4:=HY6.out.cell 4 rfl;have x0:(wr.alloc (.cells #[.int .i64 0,.int .i64 0,.slice none 0 0,.slice none 0 0,.slice none 0 0] 217)).cell? ⟨c,0,none⟩=some (.slice ova m ovc):=(HO6.out.row HRC.out (by simp)).cell 0 rfl;clear hob hog;go_wp2_with fail;generalize wr.alloc (.cells #[.int .i64 0,.int .i64 0,.slice none 0 0,.slice none 0 0,.slice none 0 0] 217)=wX at*;obtain ⟨y,hy⟩:∃ z,z=wr.heap.size:=⟨_,rfl⟩;have HY:=aA hy;rw [<-hy] at HY6 HS6 y0 y1 y2 y3 y4 ⊢;clear hy c0 o0 o1 o2 o3 o4;have hcl:c<wX.heap.size:=by have:=HBW.out;have:=HO6.out.size;omega
    have hyl:y<wX.heap.size:=HS6.out;have HPX:Hid (wX.ownsRow w4.heap.size 217 5 (.slice ova m ovc) m (jC (fun i j=>mZ (M.ob i) (rv i) (sv i) (bv i) j) m)):=by
     have h0:=HPT.out.row;refine ⟨h0.1,h0.2.imp id (fun ⟨g,cap,cur,hv,hg,hh,r⟩=>⟨g,cap,cur,hv,hg,?_,r⟩)⟩;rw [HO6.out.block g (Array.getElem?_eq_some_iff.1 hh).1 (by simp)];exact hh
    have hcg:∀ g,(Value.slice ova m ovc).ownBlock=some g->c≠g:=fun g hg e=>by have:=(World.ownsRow.lt HPX.out g hg).1;have:=HBW.out;omega
    have xf:=(HO6.out.row HRC.out (by simp)).free 0;have HBX:Hid (w4.heap.size<=wX.heap.size):=Nat.le_trans HBW.out.1 HO6.out.size;have HYL:=aA hyl;have HCL:=aA hcl;go_wp2_with fail;go_region_law ((refine step_append_lies _ (by rfl) _ _ 207 (by rfl) w4.heap.size 217 i0 _ 5 88 Tryz.underlying207 I0.out I1.out I2.out I3.out rfl (by omega) _ m _ (by rfl) ((HPX.out.alloc _).drew) ⟨wX.heap.size,0,none⟩ 1 1 [.int .i64 0,.int .i64 0,.slice none 0 0,.slice none 0 0,.slice none 0 0] (by rfl) (by rfl) (World.news_of_block (cs:=#[.int .i64 0,.int .i64 0,.slice none 0 0,.slice none 0 0,.slice none 0 0]) (t:=217) (fr:=(0,0)) (heap_alloc_new wX _)) (by simp [Value.oneCell']) (by omega) (by simp only [maxLen];omega) (by omega) (by have:=HBX.out;simp;omega) (wX.heap.size+1) (by simp) ?_;intro gg cap2 wY hown2 hgrow hat hlt2;have cp2:=(hgrow.cell_far ⟨c,0,none⟩ (by have:=HCL.out;simp;omega) (fun e=>hcg c e.symm rfl)).trans (by simp [World.cell?_alloc_past _ _ _ hcl];exact x0);have fp2:=(hgrow.frozen_far ⟨c,0,none⟩ (by have:=HCL.out;simp;omega) (fun e=>hcg c e.symm rfl)).trans (by simp [World.frozen?_alloc_past _ _ _ hcl];exact xf)))
    all_goals
     obtain ⟨L9,rv9,sv9,bv9,z1,z2,z3⟩:=yG (r:=.slice none 0 0) (s:=.slice none 0 0) (b:=.slice none 0 0) HPT.out HBW.out.2 HRC.out HO.out HO6.out (by rw [HOB.out];rfl) hown2 hgrow hat hlt2
      (fun k hk=>by cases hk) (fun k hk=>by cases hk) (fun k hk=>by cases hk) (fun o ho=>by rw [HOB.out] at ho;cases ho) (fun g hg=>by cases hg) (fun g hg=>by cases hg)
     have Z1:=aA z1;have Z2:=aA z2;have Z3:=aA z3;clear z1 z2 z3 hown2 hgrow hat hlt2 cp2 fp2;go_wp2_with fail;exact ⟨⟨m+1,L9,rv9,sv9,bv9,_,by omega,by go_num,Z1.out,Z2.out,Z3.out⟩,by simp [intOf];omega⟩
   | some o=>
    obtain ⟨o0,o1,o2,o3,o4⟩:=HG.out.iJ hlt hob;have th:=HG.out.th (m:Int) o hob;obtain ⟨ra,rc,re⟩:=th.rb.len;obtain ⟨sa,sc,se⟩:=th.sl.len;obtain ⟨ba,bc,be⟩:=th.bl.len;have hrb:=th.rb;have hsl:=th.sl;have hbl:=th.bl;rw [re] at o2 hrb;rw [se] at o3 hsl;rw [be] at o4 hbl;have hkd:(o.kind != 0)=true:=by
     have:=(HK.out.th _ o hob).kd;simp;omega
    have hle:=(HK.out.th _ o hob).le;have hrl:=(HK.out.th _ o hob).rl;have hb7:=(HK.out.aBo hob).2.1;obtain ⟨rn,hrn⟩:∃ z,z=o.refs.length:=⟨_,rfl⟩;obtain ⟨sn,hsn⟩:∃ z,z=o.slots.length:=⟨_,rfl⟩;obtain ⟨bn,hbn⟩:∃ z,z=o.blocks.length:=⟨_,rfl⟩;obtain ⟨kd,aQx⟩:∃ z,z=o.kind:=⟨_,rfl⟩;obtain ⟨cl,aNn⟩:∃ z,z=o.cls:=⟨_,rfl⟩;have hr6:rn<=1000000:=by omega
    have hs6:sn<=1000000:=by omega
    have hb6:bn<=1000000:=by omega
    rw [<-hrn] at o2 hrb;rw [<-hsn] at o3 hsl;rw [<-hbn] at o4 hbl;rw [<-aQx] at o0 hkd;rw [<-aNn] at o1;have HRN:Hid (o.refs.length=rn):=hrn.symm;have HSN:Hid (o.slots.length=sn):=hsn.symm;have HBN:Hid (o.blocks.length=bn):=hbn.symm;have HKD:Hid (o.kind=kd):=aQx.symm;have HCC:Hid (o.cls=cl):=aNn.symm;have HOB:=aA hob;have HRB:=aA hrb;have HSL:=aA hsl;have HBL:=aA hbl;obtain ⟨og,hog⟩:∃ z,z=X.og:=⟨_,rfl⟩;rw [<-hog] at c0 o0 o1 o2 o3 o4;have HYa:Hid (Row (wr.alloc (.cells #[.int .i64 kd,.int .i64 cl,.slice ra rn rc,.slice sa sn sc,.slice ba bn bc] 217)) wr.heap.size 217 [.int .i64 kd,.int .i64 cl,.slice ra rn rc,.slice sa sn sc,.slice ba bn bc]):=Row.new wr _ [_,_,_,_,_];have HOa:Hid (Only [] wr (wr.alloc (.cells #[.int .i64 kd,.int .i64 cl,.slice ra rn rc,.slice sa sn sc,.slice ba bn bc] 217))):=(Only.refl _ _).alloc _;have HSa:Hid (wr.heap.size<(wr.alloc (.cells #[.int .i64 kd,.int .i64 cl,.slice ra rn rc,.slice sa sn sc,.slice ba bn bc] 217)).heap.size):=by show _<_;simp
    have y0:=HYa.out.cell 0 rfl;clear hob hog th re se be hrb hsl hbl hrn hsn hbn aQx aNn hle hrl hb7;go_upto_region 9 with fail;generalize wr.alloc (.cells #[.int .i64 kd,.int .i64 cl,.slice ra rn rc,.slice sa sn sc,.slice ba bn bc] 217)=wa at*;obtain ⟨y,hy⟩:∃ z,z=wr.heap.size:=⟨_,rfl⟩;have HY:=aA hy;rw [<-hy] at HYa HSa ⊢;have yA:(wa.alloc (.cells #[] 4)).cell? ⟨y,2,none⟩=some (.slice ra rn rc):=(HYa.out.alloc _).cell 2 rfl;clear hy y0 c0 o0 o1 o2 o3 o4;go_wp2_with (at_builtin;refine vU rfl _ _ rfl wa ((Only.refl _ _).alloc _) _ rfl (Bls.made _) ra rn rc o.refs rfl HRN.out ?q1 hr6 ?q2)
    case q1=>exact HRB.out.aPD.only HOa.out
    case q2=>
     intro g1 cap1 w5 k1 k2;clear yA;have HY5:Hid (Row w5 y 217 [.int .i64 kd,.int .i64 cl,.slice ra rn rc,.slice sa sn sc,.slice ba bn bc]):=k2.out.row HYa.out (by simp);have hg1:=(k1.out.own g1 rfl);have HY6:Hid (Row (w5.setCell ⟨y,2,none⟩ (.slice (some ⟨g1,0,none⟩) rn cap1)) y 217 [.int .i64 kd,.int .i64 cl,.slice (some ⟨g1,0,none⟩) rn cap1,.slice sa sn sc,.slice ba bn bc]):=HY5.out.set 2 _;have HS6:Hid (Only [y] w5 (w5.setCell ⟨y,2,none⟩ (.slice (some ⟨g1,0,none⟩) rn cap1))):=(Only.refl _ _).set (p:=⟨y,2,none⟩) (.inl (by simp)) _;have aRg:Hid (Only [] wr (w5.setCell ⟨y,2,none⟩ (.slice (some ⟨g1,0,none⟩) rn cap1))):=(HOa.out.trans k2.out (by simp)).set (p:=⟨y,2,none⟩) (.inr (by rw [HY.out];exact Nat.le_refl _)) _;have B6:Hid (Bls (w5.setCell ⟨y,2,none⟩ (.slice (some ⟨g1,0,none⟩) rn cap1)) wa.heap.size (.slice (some ⟨g1,0,none⟩) rn cap1) o.refs):=k1.out.only HS6.out (fun k hk=>by cases hk;have:=HSa.out;simp;omega);have y2f:=HY5.out.free 2;have y2c:=HY5.out.cell 2 rfl;have yB:((w5.setCell ⟨y,2,none⟩ (.slice (some ⟨g1,0,none⟩) rn cap1)).alloc (.cells #[] 3)).cell? ⟨y,3,none⟩=some (.slice sa sn sc):=(HY6.out.alloc _).cell 3 rfl;have HG1:Hid (wa.heap.size<=g1/\g1<(w5.setCell ⟨y,2,none⟩ (.slice (some ⟨g1,0,none⟩) rn cap1)).heap.size/\y<wa.heap.size):=⟨hg1.1,Nat.lt_of_lt_of_le hg1.2 HS6.out.size,HSa.out⟩;clear k1 k2 hg1 HS6 yB;go_upto_region 10 with fail;generalize w5.setCell ⟨y,2,none⟩ (.slice (some ⟨g1,0,none⟩) rn cap1)=w6 at*;have yB:(w6.alloc (.cells #[] 3)).cell? ⟨y,3,none⟩=some (.slice sa sn sc):=(HY6.out.alloc _).cell 3 rfl;go_wp2_with (at_builtin;refine fQ rfl _ _ rfl w6 ((Only.refl _ _).alloc _) _ rfl (aO.made _) sa sn sc o.slots rfl HSN.out ?q3 hs6 ?q4)
     case q3=>exact HSL.out.read.aOr aRg.out
     case q4=>
      intro g2 aDi w7 k1 k2;clear y2f y2c yB HY5;have HY7:Hid (Row w7 y 217 [.int .i64 kd,.int .i64 cl,.slice (some ⟨g1,0,none⟩) rn cap1,.slice sa sn sc,.slice ba bn bc]):=k2.out.row HY6.out (by simp);have hg2:=(k1.out.own g2 rfl);have hyw:y<w6.heap.size:=HY6.out.lt;have HY8:Hid (Row (w7.setCell ⟨y,3,none⟩ (.slice (some ⟨g2,0,none⟩) sn aDi)) y 217 [.int .i64 kd,.int .i64 cl,.slice (some ⟨g1,0,none⟩) rn cap1,.slice (some ⟨g2,0,none⟩) sn aDi,.slice ba bn bc]):=HY7.out.set 3 _;have HS8:Hid (Only [y] w7 (w7.setCell ⟨y,3,none⟩ (.slice (some ⟨g2,0,none⟩) sn aDi))):=(Only.refl _ _).set (p:=⟨y,3,none⟩) (.inl (by simp)) _;have aRf:Hid (Only [] wr (w7.setCell ⟨y,3,none⟩ (.slice (some ⟨g2,0,none⟩) sn aDi))):=(aRg.out.trans k2.out (by simp)).set (p:=⟨y,3,none⟩) (.inr (by rw [HY.out];exact Nat.le_refl _)) _;have B8:Hid (Bls (w7.setCell ⟨y,3,none⟩ (.slice (some ⟨g2,0,none⟩) sn aDi)) wa.heap.size (.slice (some ⟨g1,0,none⟩) rn cap1) o.refs):=(B6.out.only k2.out (by simp)).only HS8.out (fun k hk=>by cases hk;have:=HG1.out;simp;omega);have I8:Hid (aO (w7.setCell ⟨y,3,none⟩ (.slice (some ⟨g2,0,none⟩) sn aDi)) w6.heap.size (.slice (some ⟨g2,0,none⟩) sn aDi) o.slots):=k1.out.only HS8.out (fun k hk=>by cases hk;simp;omega);have y3f:=HY7.out.free 3;have y3c:=HY7.out.cell 3 rfl;have yC:((w7.setCell ⟨y,3,none⟩ (.slice (some ⟨g2,0,none⟩) sn aDi)).alloc (.cells #[] 3)).cell? ⟨y,4,none⟩=some (.slice ba bn bc):=(HY8.out.alloc _).cell 4 rfl;have HG2:Hid (wa.heap.size<=g1/\g1<w6.heap.size/\w6.heap.size<=g2/\g2<(w7.setCell ⟨y,3,none⟩ (.slice (some ⟨g2,0,none⟩) sn aDi)).heap.size/\y<wa.heap.size/\wa.heap.size<=w6.heap.size):=⟨HG1.out.1,HG1.out.2.1,hg2.1,Nat.lt_of_lt_of_le hg2.2 HS8.out.size,HG1.out.2.2,by have:=HG1.out;omega⟩;clear k1 k2 hg2 HS8 B6 HG1 aRg hyw yC;go_upto_region 11 with fail;generalize w7.setCell ⟨y,3,none⟩ (.slice (some ⟨g2,0,none⟩) sn aDi)=w8 at*;have yC:(w8.alloc (.cells #[] 3)).cell? ⟨y,4,none⟩=some (.slice ba bn bc):=(HY8.out.alloc _).cell 4 rfl;go_wp2_with (at_builtin;refine fQ rfl _ _ rfl w8 ((Only.refl _ _).alloc _) _ rfl (aO.made _) ba bn bc o.blocks rfl HBN.out ?q5 hb6 ?q6)
      case q5=>exact HBL.out.read.aOr aRf.out
      case q6=>
       intro g3 cap3 w9 k1 k2;clear y3f y3c yC HY7 HY6;have HY9:Hid (Row w9 y 217 [.int .i64 kd,.int .i64 cl,.slice (some ⟨g1,0,none⟩) rn cap1,.slice (some ⟨g2,0,none⟩) sn aDi,.slice ba bn bc]):=k2.out.row HY8.out (by simp);have hg3:=(k1.out.own g3 rfl);have hyw:y<w8.heap.size:=HY8.out.lt;have HY6:Hid (Row (w9.setCell ⟨y,4,none⟩ (.slice (some ⟨g3,0,none⟩) bn cap3)) y 217 [.int .i64 kd,.int .i64 cl,.slice (some ⟨g1,0,none⟩) rn cap1,.slice (some ⟨g2,0,none⟩) sn aDi,.slice (some ⟨g3,0,none⟩) bn cap3]):=HY9.out.set 4 _;have HSX:Hid (Only [y] w9 (w9.setCell ⟨y,4,none⟩ (.slice (some ⟨g3,0,none⟩) bn cap3))):=(Only.refl _ _).set (p:=⟨y,4,none⟩) (.inl (by simp)) _;have HO6:Hid (Only [] wr (w9.setCell ⟨y,4,none⟩ (.slice (some ⟨g3,0,none⟩) bn cap3))):=(aRf.out.trans k2.out (by simp)).set (p:=⟨y,4,none⟩) (.inr (by rw [HY.out];exact Nat.le_refl _)) _;have BX:Hid (Bls (w9.setCell ⟨y,4,none⟩ (.slice (some ⟨g3,0,none⟩) bn cap3)) wa.heap.size (.slice (some ⟨g1,0,none⟩) rn cap1) o.refs):=(B8.out.only k2.out (by simp)).only HSX.out (fun k hk=>by cases hk;have:=HG2.out;simp;omega);have IX:Hid (aO (w9.setCell ⟨y,4,none⟩ (.slice (some ⟨g3,0,none⟩) bn cap3)) w6.heap.size (.slice (some ⟨g2,0,none⟩) sn aDi) o.slots):=(I8.out.only k2.out (by simp)).only HSX.out (fun k hk=>by cases hk;have:=HG2.out;simp;omega);have JX:Hid (aO (w9.setCell ⟨y,4,none⟩ (.slice (some ⟨g3,0,none⟩) bn cap3)) w8.heap.size (.slice (some ⟨g3,0,none⟩) bn cap3) o.blocks):=k1.out.only HSX.out (fun k hk=>by cases hk;simp;omega);have y4f:=HY9.out.free 4;have y4c:=HY9.out.cell 4 rfl;have HG3:Hid (wa.heap.size<=g1/\g1<w6.heap.size/\w6.heap.size<=g2/\g2<w8.heap.size/\w8.heap.size<=g3/\g3<(w9.setCell ⟨y,4,none⟩ (.slice (some ⟨g3,0,none⟩) bn cap3)).heap.size/\y<wa.heap.size):=by
        have h2:=HG2.out;exact ⟨h2.1,h2.2.1,h2.2.2.1,h2.2.2.2.1,hg3.1,Nat.lt_of_lt_of_le hg3.2 HSX.out.size,h2.2.2.2.2.1⟩
       have HS6:Hid (y<(w9.setCell ⟨y,4,none⟩ (.slice (some ⟨g3,0,none⟩) bn cap3)).heap.size):=HY6.out.lt;have y0:=HY6.out.cell 0 rfl;have y1:=HY6.out.cell 1 rfl;have y2:=HY6.out.cell 2 rfl;have y3:=HY6.out.cell 3 rfl;have y4:=HY6.out.cell 4 rfl;have x0:(w9.setCell ⟨y,4,none⟩ (.slice (some ⟨g3,0,none⟩) bn cap3)).cell? ⟨c,0,none⟩=some (.slice ova m ovc):=(HO6.out.row HRC.out (by simp)).cell 0 rfl;clear k1 k2 hg3 HSX B8 I8 HG2 aRf hyw HY8 HY9;go_upto_region 12 with fail;generalize (w9.setCell ⟨y,4,none⟩ (.slice (some ⟨g3,0,none⟩) bn cap3))=wX at*;have hcl:c<wX.heap.size:=by have:=HBW.out;have:=HO6.out.size;omega
       have hyl:y<wX.heap.size:=HS6.out;have HPX:Hid (wX.ownsRow w4.heap.size 217 5 (.slice ova m ovc) m (jC (fun i j=>mZ (M.ob i) (rv i) (sv i) (bv i) j) m)):=by
        have h0:=HPT.out.row;refine ⟨h0.1,h0.2.imp id (fun ⟨g,cap,cur,hv,hg,hh,r⟩=>⟨g,cap,cur,hv,hg,?_,r⟩)⟩;rw [HO6.out.block g (Array.getElem?_eq_some_iff.1 hh).1 (by simp)];exact hh
       have hcg:∀ g,(Value.slice ova m ovc).ownBlock=some g->c≠g:=fun g hg e=>by have:=(World.ownsRow.lt HPX.out g hg).1;have:=HBW.out;omega
       have xf:=(HO6.out.row HRC.out (by simp)).free 0;have HBX:Hid (w4.heap.size<=wX.heap.size):=Nat.le_trans HBW.out.1 HO6.out.size;have HYL:=aA hyl;have HCL:=aA hcl;go_wp2_with fail;go_region_law ((refine step_append_lies _ (by rfl) _ _ 207 (by rfl) w4.heap.size 217 i0 _ 5 88 Tryz.underlying207 I0.out I1.out I2.out I3.out rfl (by omega) _ m _ (by rfl) ((HPX.out.alloc _).drew) ⟨wX.heap.size,0,none⟩ 1 1 [.int .i64 kd,.int .i64 cl,.slice (some ⟨g1,0,none⟩) rn cap1,.slice (some ⟨g2,0,none⟩) sn aDi,.slice (some ⟨g3,0,none⟩) bn cap3] (by rfl) (by rfl) (World.news_of_block (cs:=#[.int .i64 kd,.int .i64 cl,.slice (some ⟨g1,0,none⟩) rn cap1,.slice (some ⟨g2,0,none⟩) sn aDi,.slice (some ⟨g3,0,none⟩) bn cap3]) (t:=217) (fr:=(0,0)) (heap_alloc_new wX _)) (by simp [Value.oneCell']) (by omega) (by simp only [maxLen];omega) (by omega) (by have:=HBX.out;simp;omega) (wX.heap.size+1) (by simp) ?_;intro gg cap2 wY hown2 hgrow hat hlt2;have cp2:=(hgrow.cell_far ⟨c,0,none⟩ (by have:=HCL.out;simp;omega) (fun e=>hcg c e.symm rfl)).trans (by simp [World.cell?_alloc_past _ _ _ hcl];exact x0);have fp2:=(hgrow.frozen_far ⟨c,0,none⟩ (by have:=HCL.out;simp;omega) (fun e=>hcg c e.symm rfl)).trans (by simp [World.frozen?_alloc_past _ _ _ hcl];exact xf)))
       all_goals
        obtain ⟨L9,rv9,sv9,bv9,z1,z2,z3⟩:=yG (r:=.slice (some ⟨g1,0,none⟩) rn cap1) (s:=.slice (some ⟨g2,0,none⟩) sn aDi) (b:=.slice (some ⟨g3,0,none⟩) bn cap3) HPT.out HBW.out.2 HRC.out HO.out HO6.out (by rw [HOB.out,<-HKD.out,<-HCC.out];rfl) hown2 hgrow hat hlt2
         (fun k hk=>by (obtain rfl:g1=k:=by simpa [Value.ownBlock] using hk);have:=HG3.out;have:=HY.out;omega) (fun k hk=>by (obtain rfl:g2=k:=by simpa [Value.ownBlock] using hk);have:=HG3.out;have:=HY.out;omega) (fun k hk=>by (obtain rfl:g3=k:=by simpa [Value.ownBlock] using hk);have:=HG3.out;have:=HY.out;omega) (fun o' ho'=>by rw [HOB.out] at ho';cases ho';exact ⟨BX.out.base (Nat.zero_le _),IX.out.base (Nat.zero_le _),JX.out.base (Nat.zero_le _)⟩) (fun g hg=>by (obtain rfl:g1=g:=by simpa [Value.ownBlock] using hg);have:=HG3.out;simp [Value.ownBlock];omega) (fun g hg=>by (obtain rfl:g2=g:=by simpa [Value.ownBlock] using hg);have:=HG3.out;simp [Value.ownBlock];omega)
        have Z1:=aA z1;have Z2:=aA z2;have Z3:=aA z3;clear z1 z2 z3 hown2 hgrow hat hlt2 cp2 fp2;go_wp2_with fail;exact ⟨⟨m+1,L9,rv9,sv9,bv9,_,by omega,by go_num,Z1.out,Z2.out,Z3.out⟩,by simp [intOf];omega⟩
  obtain rfl:m=193:=by omega
  have hlt1:¬ ((193:Nat):Int)<193:=by omega
  have HPW:=aA (((HP3.out.only aRP.out (by simp) (by simp) (by simp) (by simp)).only HO.out (by have:=HB3.out;simp;omega) (by have:=HB3.out;simp;omega) (by have:=HB3.out;simp;omega) (by have:=HB3.out;simp;omega)));have hb:=HB3.out;have hs:=HS4.out;have hcw:w.heap.size<=c:=by rw [HC.out];exact HO3.out.size
  obtain ⟨L9,X9,z1,z2⟩:=HPT.out.done (v:=w.heap.size) HK.out.hr HPW.out HRC.out ⟨hb.1,hb.2.1,hb.2.2.1,hb.2.2.2.1,hcw⟩ ⟨by omega,by omega,by omega,by omega,by omega⟩ ⟨by omega,by omega,by omega,by omega⟩;have Z1:=aA z1;have Z2:=aA z2;clear z1 z2 hb hs hcw;go_wp2_with fail;exact hR.out _ _ ⟨c,L9,X9,rfl,Z1.out,Z2.out,HOW.out⟩
end
end Go.Proofs.YthflghdaejbdkaaGreat
