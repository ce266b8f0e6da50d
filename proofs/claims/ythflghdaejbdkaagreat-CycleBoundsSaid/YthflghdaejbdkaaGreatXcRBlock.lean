/- Lemmas of this claim. -/
import Derived.Test.YthflghdaejbdkaaGreatRows
import Derived.Test.YthflghdaejbdkaaGreatXcLib
import Derived.Test.YthflghdaejbdkaaGreatXcBModel
import Derived.IntWalk
namespace Go.Proofs.YthflghdaejbdkaaGreat
open _root_.Go.Proofs.Tryz (prog)
open Go.RowKit
set_option maxHeartbeats 1600000
set_option maxRecDepth 100000
set_option linter.unusedVariables false
structure eH (w:World) (q k c l:Nat) (P:Pl):Prop where
 hq:∃ T c1 c2 c3,Row w q T [.slice (some ⟨k,0,none⟩) P.n c1,.slice (some ⟨c,0,none⟩) (P.n*16) c2,.slice (some ⟨l,0,none⟩) (P.n*16) c3]
 rk:∃ T cs,Row w k T cs
 rc:∃ T cs,Row w c T cs
 rl:∃ T cs,Row w l T cs
 kind:∀ i,i<P.n->w.cell? ⟨k,i,none⟩=some (.int .i64 (P.pg i).cls)
 cells:∀ i,i<P.n->∀ j,j<16->w.cell? ⟨c,i*16+j,none⟩=some (.int .i64 ((P.pg i).cell j))
 live:∀ i,i<P.n->∀ j,j<16->w.cell? ⟨l,i*16+j,none⟩=some (.bool ((P.pg i).live j))
 ne:q≠k/\q≠c/\q≠l/\k≠c/\k≠l/\c≠l
 n1:1<=P.n
 n24:P.n<=24
theorem eH.only {w w':World} {q k c l:Nat} {P:Pl} {F:List Nat} (h:eH w q k c l P) (o:Only F w w') (h1:q∉F) (d:k∉F) (e:c∉F) (h4:l∉F):eH w' q k c l P:=
 ⟨by obtain ⟨T,c1,c2,c3,r⟩:=h.hq;exact ⟨T,c1,c2,c3,o.row r h1⟩,h.rk.imp fun _ x=>x.imp fun _ y=>o.row y d,h.rc.imp fun _ x=>x.imp fun _ y=>o.row y e,h.rl.imp fun _ x=>x.imp fun _ y=>o.row y h4,
  fun i z=>o.cell (h.kind i z) d,fun i z j hj=>o.cell (h.cells i z j hj) e,fun i z j hj=>o.cell (h.live i z j hj) h4,h.ne,h.n1,h.n24⟩
theorem eH.sF {w w':World} {q k c l:Nat} {P:Pl} (h:eH w q k c l P) (d:lN w w'):eH w' q k c l P:=h.only (d.only []) (by simp) (by simp) (by simp) (by simp)
theorem eH.facts {w:World} {q k c l:Nat} {P:Pl} (h:eH w q k c l P):∃ z d e,w.cell? ⟨q,0,none⟩=some (.slice (some ⟨k,0,none⟩) P.n z)/\w.cell? ⟨q,1,none⟩=some (.slice (some ⟨c,0,none⟩) (P.n*16) d)/\w.cell? ⟨q,2,none⟩=some (.slice (some ⟨l,0,none⟩) (P.n*16) e)/\
  (∀ i,w.frozen? ⟨k,i,none⟩=false)/\(∀ i,w.frozen? ⟨c,i,none⟩=false)/\(∀ i,w.frozen? ⟨l,i,none⟩=false)/\(q<w.heap.size/\k<w.heap.size/\c<w.heap.size/\l<w.heap.size):=by
 obtain ⟨⟨T,z,d,e,y⟩,⟨_,_,hk⟩,⟨_,_,hc⟩,⟨_,_,hl⟩,_⟩:=h;exact ⟨z,d,e,y.cell 0 rfl,y.cell 1 rfl,y.cell 2 rfl,hk.free,hc.free,hl.free,y.lt,hk.lt,hc.lt,hl.lt⟩
theorem aIY {w:World} {b x y:Nat} {v u:Value} (h:w.cell? ⟨b,y,none⟩=some u):(w.setCell ⟨b,x,none⟩ v).cell? ⟨b,y,none⟩=some (if y=x then v else u):=by
 by_cases e:y=x
 ·subst e;rw [if_pos rfl];exact World.cell?_setCell_same _ _ _ h
 rw [if_neg e,World.cell?_setCell_other _ _ _ _ (fun z=>by injection z with _ h3 _;omega)];exact h
theorem eH.setKind {w:World} {q k c l:Nat} {P:Pl} (h:eH w q k c l P) {i:Nat} (hi:i<P.n) (v:Int) (hl:∀ j,j<16->({ P.pg i with cls:=v }:Pg).live j=(P.pg i).live j) :
  eH (w.setCell ⟨k,i,none⟩ (.int .i64 v)) q k c l (P.set i { P.pg i with cls:=v }):=by
 have o:Only [k] w (w.setCell ⟨k,i,none⟩ (.int .i64 v)):=(Only.refl _ _).set (by simp) _;obtain ⟨n1,n2,n3,z,d,n6⟩:=h.ne;refine ⟨?_,?_,h.rc.imp fun _ x=>x.imp fun _ y=>o.row y (by simpa using z.symm),h.rl.imp fun _ x=>x.imp fun _ y=>o.row y (by simpa using d.symm),fun x hx=>?_,fun x hx j hj=>?_,fun x hx j hj=>?_,h.ne,h.n1,h.n24⟩
 ·obtain ⟨T,c1,c2,c3,r⟩:=h.hq;exact ⟨T,c1,c2,c3,o.row r (by simpa using n1)⟩
 ·obtain ⟨T,cs,r⟩:=h.rk;exact ⟨T,_,r.set _ _⟩
 ·rw [aIY (h.kind x hx)]
  by_cases e:x=i
  ·subst e;rw [if_pos rfl,Pl.aP]
  rw [if_neg e,Pl.aV _ _ e]
 ·rw [o.cell (h.cells x hx j hj) (by simpa using z.symm)]
  by_cases e:x=i
  ·subst e;rw [Pl.aP]
  rw [Pl.aV _ _ e]
 rw [o.cell (h.live x hx j hj) (by simpa using d.symm)]
 by_cases e:x=i
 ·subst e;rw [Pl.aP,hl j hj]
 rw [Pl.aV _ _ e]
theorem eH.aJb {w:World} {q k c l:Nat} {P:Pl} (h:eH w q k c l P) {i j:Nat} (hi:i<P.n) (hj:j<16) (v:Bool) (u:Nat->Bool) (hl:∀ x,x<16->({ P.pg i with used:=u }:Pg).live x=if x=j then v else (P.pg i).live x) :
  eH (w.setCell ⟨l,i*16+j,none⟩ (.bool v)) q k c l (P.set i { P.pg i with used:=u }):=by
 have o:Only [l] w (w.setCell ⟨l,i*16+j,none⟩ (.bool v)):=(Only.refl _ _).set (by simp) _;obtain ⟨n1,n2,n3,n4,d,n6⟩:=h.ne;refine ⟨?_,h.rk.imp fun _ x=>x.imp fun _ y=>o.row y (by simpa using d),h.rc.imp fun _ x=>x.imp fun _ y=>o.row y (by simpa using n6),?_,fun x hx=>?_,fun x hx y hy=>?_,fun x hx y hy=>?_,h.ne,h.n1,h.n24⟩
 ·obtain ⟨T,c1,c2,c3,r⟩:=h.hq;exact ⟨T,c1,c2,c3,o.row r (by simpa using n3)⟩
 ·obtain ⟨T,cs,r⟩:=h.rl;exact ⟨T,_,r.set _ _⟩
 ·rw [o.cell (h.kind x hx) (by simpa using d)]
  by_cases e:x=i
  ·subst e;rw [Pl.aP]
  rw [Pl.aV _ _ e]
 ·rw [o.cell (h.cells x hx y hy) (by simpa using n6)]
  by_cases e:x=i
  ·subst e;rw [Pl.aP]
  rw [Pl.aV _ _ e]
 rw [aIY (h.live x hx y hy)]
 by_cases e:x=i
 ·subst e;rw [Pl.aP,hl y hy]
  by_cases z:y=j
  ·rw [if_pos (by omega),if_pos z]
  rw [if_neg (by omega),if_neg z]
 rw [Pl.aV _ _ e,if_neg (by omega)]
theorem eH.setCell {w:World} {q k c l:Nat} {P:Pl} (h:eH w q k c l P) {i j:Nat} (hi:i<P.n) (hj:j<16) (v:Int) :
  eH (w.setCell ⟨c,i*16+j,none⟩ (.int .i64 v)) q k c l (P.set i { P.pg i with cell:=up (P.pg i).cell j v }):=by
 have o:Only [c] w (w.setCell ⟨c,i*16+j,none⟩ (.int .i64 v)):=(Only.refl _ _).set (by simp) _;obtain ⟨n1,n2,n3,d,n5,n6⟩:=h.ne;refine ⟨?_,h.rk.imp fun _ x=>x.imp fun _ y=>o.row y (by simpa using d),?_,h.rl.imp fun _ x=>x.imp fun _ y=>o.row y (by simpa using n6.symm),fun x hx=>?_,fun x hx y hy=>?_,fun x hx y hy=>?_,h.ne,h.n1,h.n24⟩
 ·obtain ⟨T,c1,c2,c3,r⟩:=h.hq;exact ⟨T,c1,c2,c3,o.row r (by simpa using n2)⟩
 ·obtain ⟨T,cs,r⟩:=h.rc;exact ⟨T,_,r.set _ _⟩
 ·rw [o.cell (h.kind x hx) (by simpa using d)]
  by_cases e:x=i
  ·subst e;rw [Pl.aP]
  rw [Pl.aV _ _ e]
 ·rw [aIY (h.cells x hx y hy)]
  by_cases e:x=i
  ·subst e;rw [Pl.aP];show _=some (Value.int .i64 (up _ _ _ _))
   by_cases z:y=j
   ·subst z;rw [if_pos rfl,bM]
   rw [if_neg (by omega),aU _ _ z]
  rw [Pl.aV _ _ e,if_neg (by omega)]
 rw [o.cell (h.live x hx y hy) (by simpa using n6.symm)]
 by_cases e:x=i
 ·subst e;rw [Pl.aP];rfl
 rw [Pl.aV _ _ e]
theorem Pg.nP {p:Pg} (h:p.cls = -1) (j:Nat):p.live j=false:=by simp [Pg.live,h]
theorem Pg.uD {p:Pg} (h:IsC p.cls) (k:Nat):p.live (k*bsz p.cls)=p.used k:=by
 have y:p.cls≠-1:=by rcases h with e|e|e<;>omega
 simp [Pg.live,y,(h.mul_div k).1]
theorem Pg.aBD {p:Pg} (h:IsC p.cls) (j:Nat):p.live j=true↔j=j / bsz p.cls*bsz p.cls/\p.used (j / bsz p.cls)=true:=by
 have h1:p.cls≠-1:=by rcases h with e|e|e<;>omega
 have d:=h.facts;simp only [Pg.live,Bool.and_eq_true,decide_eq_true_eq];constructor
 ·rintro ⟨⟨_,y⟩,z⟩;exact ⟨by rcases d with ⟨e,_⟩|⟨e,_⟩|⟨e,_⟩<;>(rw [e] at y ⊢;omega),z⟩
 rintro ⟨y,z⟩;exact ⟨⟨h1,by rcases d with ⟨e,_⟩|⟨e,_⟩|⟨e,_⟩<;>(rw [e] at y ⊢;omega)⟩,z⟩
theorem Pg.aJQ {p:Pg} (h:IsC p.cls) (k:Nat) (v:Bool) (x:Nat):({ p with used:=up p.used k v }:Pg).live x=if x=k*bsz p.cls then v else p.live x:=by
 have h1:p.cls≠-1:=by rcases h with e|e|e<;>omega
 by_cases e:x=k*bsz p.cls
 ·subst e;rw [if_pos rfl];have:=Pg.uD (p:={ p with used:=up p.used k v }) h k;rw [this];exact bM _ _ _
 rw [if_neg e];unfold Pg.live
 by_cases y:x % bsz p.cls=0
 ·have:x / bsz p.cls≠k:=by
   intro z;apply e;rw [<-z];have d:=h.facts;rcases d with ⟨e,_⟩|⟨e,_⟩|⟨e,_⟩<;>(rw [e] at y ⊢;omega)
  show (decide (p.cls≠-1) && decide (x % bsz p.cls=0) && up p.used k v (x / bsz p.cls))=_;rw [aU _ _ this]
 simp [y]
def Pg.okw (p:Pg):Prop:=(p.cls = -1/\∀ k,p.used k=false)\/(IsC p.cls/\∀ k,bpt p.cls<=k->p.used k=false)
theorem Pg.ok.w {p:Pg} (h:p.ok):p.okw:=by
 rcases h.cls with y|y
 ·exact .inl ⟨y,h.free y⟩
 exact .inr ⟨y,h.high (by rcases y with e|e|e<;>omega)⟩
theorem Pg.aFL {p:Pg} (h:p.okw):cnt p.live 16=p.count:=by
 rcases h with ⟨hc,hf⟩|⟨hc,hh⟩
 ·rw [show p.count=0 from oV fun j _=>hf j];exact oV fun j _=>Pg.nP hc j
 have h0:p.cls≠-1:=by rcases hc with e|e|e<;>omega
 rw [show p.count=cnt p.used (bpt p.cls) from aGe hc.sz.2.2.2 fun j h1 _=>hh j h1];have z:∀ k,p.live (k*bsz p.cls)=p.used k:=Pg.uD hc;have y:∀ j,j % bsz p.cls≠0->p.live j=false:=fun j hj=>by simp [Pg.live,hj]
 rcases hc.facts with ⟨e1,e2⟩|⟨e1,e2⟩|⟨e1,e2⟩
 ·rw [e1] at z y;rw [e2];have d:=z 0;have a1:=z 1;have a2:=z 2;have a3:=z 3;have a4:=z 4;have a5:=z 5;have a6:=z 6;have a7:=z 7;simp only [Nat.zero_mul,Nat.one_mul,Nat.reduceMul] at d a1 a2 a3 a4 a5 a6 a7;simp only [cnt,d,a1,a2,a3,a4,a5,a6,a7,y 1 (by decide),y 3 (by decide),y 5 (by decide),y 7 (by decide),y 9 (by decide),y 11 (by decide),y 13 (by decide),y 15 (by decide)];simp
 ·rw [e1] at z y;rw [e2];have d:=z 0;have a1:=z 1;have a2:=z 2;have a3:=z 3;simp only [Nat.zero_mul,Nat.one_mul,Nat.reduceMul] at d a1 a2 a3;simp only [cnt,d,a1,a2,a3,y 1 (by decide),y 2 (by decide),y 3 (by decide),y 5 (by decide),y 6 (by decide),y 7 (by decide),y 9 (by decide),y 10 (by decide),y 11 (by decide),y 13 (by decide),y 14 (by decide),y 15 (by decide)];simp
 rw [e1] at z y;rw [e2];have d:=z 0;have a1:=z 1;simp only [Nat.zero_mul,Nat.one_mul] at d a1;simp only [cnt,d,a1,y 1 (by decide),y 2 (by decide),y 3 (by decide),y 4 (by decide),y 5 (by decide),y 6 (by decide),y 7 (by decide),y 9 (by decide),y 10 (by decide),y 11 (by decide),y 12 (by decide),y 13 (by decide),y 14 (by decide),y 15 (by decide)];simp
theorem zS (w:World) (c:Int) (h:IsC c):Calls prog 229 #[.int .i64 c] w (aO w (.int .i64 (bsz c))):=by
 refine aF fun R z=>?_;have hb:Hid (∀ k:Nat,k<=2->bsz (k:Int)=2*2 ^ k):=fun k _=>rfl;obtain ⟨C,rfl,hC⟩:∃ C:Nat,c=C/\C<=2:=⟨c.toNat,by rcases h with e|e|e<;>omega,by rcases h with e|e|e<;>omega⟩
 go_in;go_wp2_with fail;go_loop [3,4] (fun n i=>∃ k:Nat,k<=C/\i=.int .i64 k/\n=.int .i64 (bsz (k:Int):Nat)) (fun _ i=>C - (intOf i).toNat)
 case atStart=>exact ⟨0,by omega,rfl,rfl⟩
 case round=>
  obtain ⟨k,hk,rfl,rfl⟩:=hrel
  by_cases d:k<C
  ·have hs:Hid (bsz ((k+1:Nat):Int)=2*bsz (k:Int)):=by show _=_;rw [hb.out _ (by omega),hb.out _ (by omega),Nat.pow_succ];omega
   have h8:bsz (k:Int)<=8:=by
    have y:k=0\/k=1:=by omega
    rcases y with rfl|rfl<;>decide
   go_wp2_with fail;go_round
   case rel=>exact ⟨k+1,by omega,by go_num,by rw [hs.out];go_num⟩
   case measure=>simp [intOf];omega
  obtain rfl:k=C:=by omega
  go_wp2;exact z.out _ _ ⟨rfl,rfl⟩
theorem nH (w:World) (q k c l:Nat) (P:Pl) (h:eH w q k c l P) (i:Nat) (hi:i<P.n) (z:(P.pg i).okw) :
  Calls prog 272 #[.pointer (some ⟨q,0,none⟩),.int .i64 i] w (aO w (.int .i64 (P.pg i).count)):=by
 refine aF fun R hR=>?_;obtain ⟨c1,c2,c3,z0,z1,z2,_⟩:=h.facts;have h1:=h.n24;have H:=aA h;have HL:=aA (Pg.aFL z);clear h z;go_in;go_wp2_with fail;go_loop [5,6] (fun n j=>∃ x:Nat,x<=16/\j=.int .i64 x/\n=.int .i64 (cnt (P.pg i).live x)) (fun _ j=>16 - (intOf j).toNat)
 case atStart=>exact ⟨0,by omega,rfl,rfl⟩
 case round=>
  obtain ⟨x,hx,rfl,rfl⟩:=hrel
  by_cases d:x<16
  ·have y:=H.out.live i hi x d;have h2:=qN (P.pg i).live x;have hs:Hid (cnt (P.pg i).live (x+1)=cnt (P.pg i).live x+if (P.pg i).live x then 1 else 0):=rfl;have h0:((i:Int)*16+(x:Int)).toNat=i*16+x:=by omega
   cases e:(P.pg i).live x<;>(rw [e] at y;rw [e] at hs)<;>(
    go_wp2_with fail;go_round
    case rel=>exact ⟨x+1,by omega,by go_num,by rw [hs.out];go_num⟩
    case measure=>simp [intOf];omega)
  obtain rfl:x=16:=by omega
  go_wp2;exact hR.out _ _ ⟨by rw [<-HL.out],rfl⟩
theorem IsC.full {c:Int} (h:IsC c):bpt c*bsz c=16:=by rcases h.facts with ⟨h1,h2⟩|⟨h1,h2⟩|⟨h1,h2⟩<;>rw [h1,h2]
theorem Pl.set_set (P:Pl) (i:Nat) (x y:Pg):(P.set i x).set i y=P.set i y:=by
 unfold Pl.set;congr 1;funext j
 by_cases e:j=i
 ·subst e;rw [bM,bM]
 rw [aU _ _ e,aU _ _ e];exact aU _ _ e
def aFV (P:Pl) (i:Nat):Int:=if (P.pg i).gap (P.pg i).cls<bpt (P.pg i).cls then ((16*i+(P.pg i).gap (P.pg i).cls*bsz (P.pg i).cls:Nat):Int) else -1
theorem tC (w:World) (q k c l:Nat) (P:Pl) (h:eH w q k c l P) (i:Nat) (hi:i<P.n) (hC:IsC (P.pg i).cls) :
  Calls prog 252 #[.pointer (some ⟨q,0,none⟩),.int .i64 i] w (aO w (.int .i64 (aFV P i))):=by
 refine aF fun R hR=>?_;obtain ⟨c1,c2,c3,z0,z1,z2,_⟩:=h.facts;have x5:=h.n24;have h7:=h.kind i hi;obtain ⟨cl,h3⟩:∃ cl,cl=(P.pg i).cls:=⟨_,rfl⟩;have h4:Hid (aFV P i=if (P.pg i).gap cl<bpt cl then ((16*i+(P.pg i).gap cl*bsz cl:Nat):Int) else -1):=by show _=_;rw [h3];rfl
 have h9:Hid (∀ m,(P.pg i).live (m*bsz cl)=(P.pg i).used m):=by rw [h3];exact Pg.uD hC
 rw [<-h3] at hC h7;have hcut:=fun wx=>zS wx cl hC;have h0:∀ k,k<bpt cl->k*bsz cl+bsz cl<=16/\(k+1)*bsz cl=k*bsz cl+bsz cl:=fun k hk=>hC.blk hk;have y:=hC.full;have h6:=hC.sz;obtain ⟨z,hz⟩:∃ z,z=bsz cl:=⟨_,rfl⟩;obtain ⟨n,hn⟩:∃ n,n=bpt cl:=⟨_,rfl⟩;have HZ:=aA hz;have HN:=aA hn;rw [<-hz] at h0 y h6 h4 hcut h9;rw [<-hn] at h0 y h6 h4;have HB:=aA h0;have HF:=aA y;have x7:2<=z:=by omega
 have x8:z<=8:=by omega
 have x6:n<=8:=by omega
 have H:=aA h;clear hz hn h0 y h6 h h3;go_in;go_wp2_with fail;go_loop [5] (fun v=>∃ m s:Nat,m<=n/\Hid (s=m*z)/\v=.int .i64 s/\Hid (∀ x,x<m->(P.pg i).used x=true)/\s<=16) (fun v=>16 - (intOf v).toNat)
 case atStart=>exact ⟨0,0,by omega,(Nat.zero_mul _).symm,rfl,fun x hx=>by omega,by omega⟩
 case round=>
  obtain ⟨m,s,hm,hs,rfl,hu,x4⟩:=hrel
  by_cases h5:m<n
  ·have hb:=HB.out _ h5;have x3:s+z<=16:=by rw [hs.out];exact hb.1
   have h8:Hid (s+z=(m+1)*z):=by show _=_;rw [hb.2,hs.out]
   have d:=H.out.live i hi s (by omega);rw [show (P.pg i).live s=(P.pg i).used m by rw [hs.out];exact h9.out m] at d;have x2:((i:Int)*16+(s:Int)).toNat=i*16+s:=by omega
   clear hb
   cases h1:(P.pg i).used m with
   | true=>
    rw [h1] at d;have HU:=aA h1;clear h1;go_wp2_with fail;refine (hcut _).mono ?_;rintro e _ ⟨rfl,rfl⟩;go_wp2_with fail;go_round
    case rel=>exact ⟨m+1,s+z,by omega,h8,by go_num,fun x hx=>by
     by_cases e:x=m
     ·rw [e];exact HU.out
     exact hu.out x (by omega),by omega⟩
    case measure=>simp [intOf];omega
   | false=>
    rw [h1] at d;have h2:Hid (aFV P i=(i:Int)*16+(s:Int)):=by
     have e1:(P.pg i).gap cl=m:=by
      unfold Pg.gap;exact kV (by rw [<-HN.out];exact h5) (by rw [h1];rfl) (fun x hx=>by rw [hu.out x hx];rfl)
     show _=_;rw [h4.out,e1,if_pos h5,<-hs.out];omega
    clear h1;go_wp2;exact hR.out _ _ ⟨by rw [h2.out],rfl⟩
  obtain rfl:m=n:=by omega
  have x1:s=16:=by rw [hs.out];exact HF.out
  have h2:Hid (aFV P i = -1):=by
   have e1:(P.pg i).gap cl=m:=by
    rw [HN.out];unfold Pg.gap;exact fP (fun x hx=>by rw [<-HN.out] at hx;rw [hu.out x hx];rfl)
   show _=_;rw [h4.out,e1,if_neg (by omega)]
  subst x1;go_wp2;exact hR.out _ _ ⟨by rw [h2.out],rfl⟩
theorem aHM {p:Pg} (h:p.ok) (d:IsC p.cls):(p.gap p.cls<bpt p.cls)↔p.partly p.cls=true:=by
 have y:p.cls≠-1:=by rcases d with e|e|e<;>omega
 constructor
 ·intro hg;refine Pg.dS.2 ⟨rfl,?_⟩;rw [h.count y];have z:=(dQ (fun k=>!p.used k) (bpt p.cls)).2 hg;exact aAW.2 ⟨_,hg,by simp only [Bool.not_eq_true'] at z;exact z⟩
 exact fun hp=>(h.gap d hp).1
theorem aEi (w:World) (q k c l:Nat) (P:Pl) (h:eH w q k c l P) (i:Nat) (hi:i<P.n) (cl:Int) (hC:IsC cl) (d:(P.pg i).cls=cl) (x m z:Nat) (hx:x<bpt cl) (hz:z=bsz cl) (hm:m=x*z) (a:Int) (ha:a=((i*16+m:Nat):Int)) :
  Calls prog 253 #[.pointer (some ⟨q,0,none⟩),.int .i64 a,.int .i64 z] w fun e w'=>e=.returned (.tuple #[])/\eH w' q k c l (P.set i ((P.pg i).take cl x fun _=>0))/\Only [c,l] w w':=by
 refine aF fun R hR=>?_;obtain ⟨A,hA⟩:∃ A:Nat,A=i*16+m:=⟨_,rfl⟩;rw [<-hA] at ha;subst ha;obtain ⟨c1,c2,c3,z0,z1,z2,f0,f1,f2,_⟩:=h.facts;have x1:=h.n24;have h8:=hC.sz;have hb:=hC.blk hx;rw [<-hz,<-hm] at hb;have h4:m<16:=by omega
 have x5:m+z<=16:=hb.1;have x6:z<=8:=by omega
 have h5:=h.live i hi m h4;rw [<-hA] at h5;have x2:A<P.n*16:=by omega
 have h1:=h.aJb hi h4 true (up (P.pg i).used x true) (fun y hy=>by
  rw [show m=x*bsz (P.pg i).cls by rw [d,<-hz];exact hm];exact Pg.aJQ (by rw [d];exact hC) x true y)
 rw [<-hA] at h1;have o1:Only [c,l] w (w.setCell ⟨l,A,none⟩ (.bool true)):=(Only.refl _ _).set (by simp) _;have h7:Hid (eH (w.setCell ⟨l,A,none⟩ (.bool true)) q k c l (P.set i { cls:=cl,used:=up (P.pg i).used x true,cell:=fun j=>if m<=j/\j<m+0 then 0 else (P.pg i).cell j })):=by
  have e:({ P.pg i with used:=up (P.pg i).used x true }:Pg)={ cls:=cl,used:=up (P.pg i).used x true,cell:=fun j=>if m<=j/\j<m+0 then 0 else (P.pg i).cell j }:=by
   show (⟨(P.pg i).cls,up (P.pg i).used x true,(P.pg i).cell⟩:Pg)=_;rw [d];congr 1;funext j;rw [if_neg (by omega)]
  rw [e] at h1;exact h1
 have h6:Hid ((P.pg i).take cl x (fun _=>0)={ cls:=cl,used:=up (P.pg i).used x true,cell:=fun j=>if m<=j/\j<m+z then 0 else (P.pg i).cell j }):=by
  show _=_;unfold Pg.take;rw [<-hz,<-hm]
 have O1:=aA o1;have HA:=aA hA;clear h h1 o1 hb h8 d hz hm hA;go_in;go_wp2;go_loopw [6] (fun v wr=>∃ y:Nat,y<=z/\v=.int .i64 y/\eH wr q k c l (P.set i { cls:=cl,used:=up (P.pg i).used x true,cell:=fun j=>if m<=j/\j<m+y then 0 else (P.pg i).cell j })/\Only [c,l] w wr) (fun v _=>z - (intOf v).toNat)
 case atStart=>exact ⟨0,by omega,rfl,h7.out,O1.out⟩
 case round=>
  clear z0 z1 z2 f0 f1 f2 h5;obtain ⟨y,hy,rfl,h2,o2⟩:=hrel;obtain ⟨d1,d2,d3,z0,z1,z2,f0,f1,f2,_⟩:=h2.facts;simp only [Pl.aPM] at z0 z1 z2
  by_cases x4:y<z
  ·have h0:=h2.cells i hi (m+y) (by omega);have x3:A+y<P.n*16:=by have:=HA.out;omega
   have h3:=h2.setCell (i:=i) (j:=m+y) hi (by omega) 0;rw [Pl.aP,Pl.set_set] at h3;have e:up (fun j=>if m<=j/\j<m+y then (0:Int) else (P.pg i).cell j) (m+y) 0=fun j=>if m<=j/\j<m+(y+1) then 0 else (P.pg i).cell j:=by
    funext j;unfold up
    by_cases e1:j=m+y
    ·rw [if_pos e1,if_pos (by omega)]
    rw [if_neg e1];show (if m<=j/\j<m+y then (0:Int) else (P.pg i).cell j)=_
    by_cases e2:m<=j/\j<m+y
    ·rw [if_pos e2,if_pos (by omega)]
    rw [if_neg e2,if_neg (by omega)]
   have H3:Hid (eH (wr.setCell ⟨c,A+y,none⟩ (.int .i64 0)) q k c l (P.set i { cls:=cl,used:=up (P.pg i).used x true,cell:=fun j=>if m<=j/\j<m+(y+1) then 0 else (P.pg i).cell j })):=by
    rw [HA.out,Nat.add_assoc,<-e];exact h3
   have h9:((A:Int)+(y:Int)).toNat=A+y:=by omega
   rw [<-Nat.add_assoc,<-HA.out] at h0;have H2:=aA h2;clear h2 h3 e;go_wp2;exact ⟨⟨y+1,by omega,by go_num,H3.out,o2.set (by simp) _⟩,by simp [intOf];omega⟩
  obtain rfl:y=z:=by omega
  go_wp2_with fail;go_end0;refine hR.out _ _ ⟨rfl,?_,o2⟩;rw [h6.out];exact h2
set_option maxHeartbeats 3200000
theorem aBM {P:Pl} {i:Nat} (y:(P.pg i).ok) {c:Int} (d:IsC c) (z:(P.pg i).cls=c) (e:(P.pg i).partly c=false):aFV P i = -1:=by
 unfold aFV;rw [if_neg];rw [aHM y (by rw [z];exact d),z,e];simp
theorem aBL {P:Pl} {i:Nat} (y:(P.pg i).ok) {c:Int} (e:IsC c) (d:(P.pg i).partly c=true):aFV P i=((16*i+(P.pg i).gap c*bsz c:Nat):Int)/\(P.pg i).gap c<bpt c:=by
 have he:=(Pg.dS.1 d).1;have z:=(y.gap e d).1;unfold aFV;rw [he,if_pos z];exact ⟨rfl,z⟩
theorem aEu (w:World) (q k c l:Nat) (P:Pl) (h:eH w q k c l P) (h6:P.ok) (cl:Int) (z:IsC cl) (i:Nat) (hi:i<P.n) (hp:(P.pg i).partly cl=true) (hb:∀ j,j<i->(P.pg j).partly cl=false) :
  Calls prog 243 #[.pointer (some ⟨q,0,none⟩),.int .i64 cl] w fun e w'=>
   e=.returned (.tuple #[.int .i64 ((16*i+(P.pg i).gap cl*bsz cl:Nat):Int),.int .i64 0])/\eH w' q k c l (P.set i ((P.pg i).take cl ((P.pg i).gap cl) fun _=>0))/\Only [k,c,l] w w':=by
 refine aF fun R hR=>?_;have x5:decide (cl<0)=false:=by simp;rcases z with e|e|e<;>omega
 have x4:decide (2<cl)=false:=by simp;rcases z with e|e|e<;>omega
 have x2:(cl == -1)=false:=by rw [beq_eq_false_iff_ne];rcases z with e|e|e<;>omega
 obtain ⟨c1,c2,c3,z0,z1,z2,_⟩:=h.facts;have x1:=h.n24;have H:=aA h;have h3:=aA h6;have hcut:=fun wx=>zS wx cl z;have h8:=aA hb;have h4:=aA hp;clear h h6 hb hp;go_in;go_wp2_with fail;go_loop [6] (fun v=>∃ j:Nat,j<=i/\v=.int .i64 j) (fun v=>i - (intOf v).toNat)
 case atStart=>exact ⟨0,by omega,rfl⟩
 case round=>
  obtain ⟨j,hj,rfl⟩:=hrel
  by_cases h5:j<i
  ·have d:j<P.n:=by omega
   have h1:=H.out.kind j d;have h0:=h8.out j h5
   cases hE:((P.pg j).cls == cl)
   ·clear h0;go_wp2_with fail;go_round
    case rel=>exact ⟨j+1,by omega,by go_num⟩
    case measure=>simp [intOf];omega
   have y:(P.pg j).cls=cl:=by simpa using hE
   have mM:=tC w q k c l P H.out j d (by rw [y];exact z);rw [aBM (h3.out j d) z y h0] at mM;clear h0 y;go_wp2_with fail;refine mM.mono ?_;rintro e _ ⟨rfl,rfl⟩;go_wp2_with fail;go_round
   case rel=>exact ⟨j+1,by omega,by go_num⟩
   case measure=>simp [intOf];omega
  obtain rfl:j=i:=by omega
  have h1:=H.out.kind j hi;have y:=(Pg.dS.1 h4.out).1;have hE:((P.pg j).cls == cl)=true:=by simpa using y
  have mM:=tC w q k c l P H.out j hi (by rw [y];exact z);obtain ⟨g1,g2⟩:=aBL (h3.out j hi) z h4.out;have h7:Hid (((16*j+(P.pg j).gap cl*bsz cl:Nat):Int)=aFV P j):=g1.symm;have x3:0<=aFV P j:=by rw [g1];omega
  have h9:=aEi w q k c l P H.out j hi cl z y ((P.pg j).gap cl) _ _ g2 rfl rfl (aFV P j) (by rw [g1];omega);rw [h7.out] at hR;clear y g1 g2 h5;go_wp2_with fail;refine mM.mono ?_;rintro e _ ⟨rfl,rfl⟩;go_wp2_with fail;refine mM.mono ?_;rintro e _ ⟨rfl,rfl⟩;go_wp2_with fail;refine (hcut _).mono ?_;rintro e _ ⟨rfl,rfl⟩;go_wp2_with fail;refine h9.mono ?_;rintro e w2 ⟨rfl,h2,o2⟩;go_wp2;exact hR.out _ _ ⟨rfl,h2,o2.mono (by simp)⟩
theorem aGN (w:World) (q k c l:Nat) (P:Pl) (h:eH w q k c l P) (h5:P.ok) (cl:Int) (hC:IsC cl) (hn:∀ j,j<P.n->(P.pg j).partly cl=false) (i:Nat) (hi:i<P.n) (hp:(P.pg i).cls<0) (hb:∀ j,j<i->¬ (P.pg j).cls<0) :
  Calls prog 243 #[.pointer (some ⟨q,0,none⟩),.int .i64 cl] w fun e w'=>
   e=.returned (.tuple #[.int .i64 ((16*i:Nat):Int),.int .i64 0])/\eH w' q k c l (P.set i ((P.pg i).take cl 0 fun _=>0))/\Only [k,c,l] w w':=by
 refine aF fun R hR=>?_;have x9:decide (cl<0)=false:=by simp;rcases hC with e|e|e<;>omega
 have x8:decide (2<cl)=false:=by simp;rcases hC with e|e|e<;>omega
 have x6:(cl == -1)=false:=by rw [beq_eq_false_iff_ne];rcases hC with e|e|e<;>omega
 obtain ⟨c1,c2,c3,z0,z1,z2,_⟩:=h.facts;have x5:=h.n24;have H:=aA h;have h6:=aA h5;have hcut:=fun wx=>zS wx cl hC;have h8:=aA hb;have h9:=aA hn;have y:(P.pg i).cls = -1:=((h5 i hi).neg).1 hp;clear h h5 hb hn hp;go_in;go_wp2_with fail;go_loop [6] (fun v=>∃ j:Nat,j<=P.n/\v=.int .i64 j) (fun v=>P.n - (intOf v).toNat)
 case atStart=>exact ⟨0,by omega,rfl⟩
 case round=>
  obtain ⟨j,hj,rfl⟩:=hrel
  by_cases d:j<P.n
  ·have z:j<P.n:=by omega
   have h0:=H.out.kind j z;have h4:=h9.out j d
   cases hE:((P.pg j).cls == cl)
   ·clear h4;go_wp2_with fail;go_round
    case rel=>exact ⟨j+1,by omega,by go_num⟩
    case measure=>simp [intOf];omega
   have h3:(P.pg j).cls=cl:=by simpa using hE
   have mM:=tC w q k c l P H.out j z (by rw [h3];exact hC);rw [aBM (h6.out j z) hC h3 h4] at mM;clear h4 h3;go_wp2_with fail;refine mM.mono ?_;rintro e _ ⟨rfl,rfl⟩;go_wp2_with fail;go_round
   case rel=>exact ⟨j+1,by omega,by go_num⟩
   case measure=>simp [intOf];omega
  have x2:j=P.n:=by omega
  subst x2;go_wp2_with fail;go_loop [8] (fun v=>∃ j:Nat,j<=i/\v=.int .i64 j) (fun v=>i - (intOf v).toNat)
  case atStart=>exact ⟨0,by omega,rfl⟩
  case round=>
   clear d;obtain ⟨j,hj,rfl⟩:=hrel
   by_cases d:j<i
   ·have z:j<P.n:=by omega
    have h0:=H.out.kind j z;have x4:=h8.out j d;have hE:((P.pg j).cls == -1)=false:=by rw [beq_eq_false_iff_ne];omega
    clear x4;go_wp2_with fail;go_round
    case rel=>exact ⟨j+1,by omega,by go_num⟩
    case measure=>simp [intOf];omega
   obtain rfl:j=i:=by omega
   clear d;have h0:=H.out.kind j hi;have hE:((P.pg j).cls == -1)=true:=by rw [y];rfl
   have x3:=H.out.ne;obtain ⟨n1,n2,n3,n4,n5,n6⟩:=x3;have x7:=H.out.facts.choose_spec.choose_spec.choose_spec.2.2.2.1;have h2:=H.out.setKind hi cl (fun x hx=>by
    rw [Pg.nP y];simp [Pg.live,(h6.out j hi).free y])
   have h1:=fun a ha=>aEi _ q k c l _ h2 j hi cl hC (by rw [Pl.aP]) 0 0 (bsz cl) (by have:=hC.sz;omega) rfl (by omega) a ha;rw [Pl.aP,Pl.set_set] at h1;have e1:({ P.pg j with cls:=cl }:Pg).take cl 0 (fun _=>0)=(P.pg j).take cl 0 fun _=>0:=rfl;rw [e1] at h1;have x1:=aA h1;have y0:IntKind.i64.wrap ((j:Int)*16)=(j:Int)*16:=IntWalk.i64_in _ (by omega);have h7:Hid (((16*j:Nat):Int)=(j:Int)*16):=by show _=_;omega
   rw [h7.out] at hR;clear h2 h1 e1;go_wp2_with fail;refine (hcut _).mono ?_;rintro e _ ⟨rfl,rfl⟩;go_wp2_with fail;refine (x1.out _ (by omega)).mono ?_;rintro e w2 ⟨rfl,h2,o2⟩;go_wp2;exact hR.out _ _ ⟨rfl,h2,((Only.refl [k,c,l] w).set (by simp) _).trans o2 (by simp)⟩
theorem aEv (w:World) (q k c l:Nat) (P:Pl) (h:eH w q k c l P) (h2:P.ok) (cl:Int) (hC:IsC cl) (hn:∀ j,j<P.n->(P.pg j).partly cl=false) (hp:∀ j,j<P.n->¬ (P.pg j).cls<0) :
  Calls prog 243 #[.pointer (some ⟨q,0,none⟩),.int .i64 cl] w fun e w'=>e=.returned (.tuple #[.int .i64 0,.int .i64 14])/\w=w':=by
 refine aF fun R hR=>?_;have x2:decide (cl<0)=false:=by simp;rcases hC with e|e|e<;>omega
 have x1:decide (2<cl)=false:=by simp;rcases hC with e|e|e<;>omega
 have h9:(cl == -1)=false:=by rw [beq_eq_false_iff_ne];rcases hC with e|e|e<;>omega
 obtain ⟨c1,c2,c3,z0,z1,z2,_⟩:=h.facts;have h8:=h.n24;have H:=aA h;have h5:=aA h2;have hcut:=fun wx=>zS wx cl hC;have h3:=aA hp;have h4:=aA hn;clear h h2 hn hp;go_in;go_wp2_with fail;go_loop [6] (fun v=>∃ j:Nat,j<=P.n/\v=.int .i64 j) (fun v=>P.n - (intOf v).toNat)
 case atStart=>exact ⟨0,by omega,rfl⟩
 case round=>
  obtain ⟨j,hj,rfl⟩:=hrel
  by_cases y:j<P.n
  ·have d:j<P.n:=by omega
   have h1:=H.out.kind j d;have h0:=h4.out j y
   cases hE:((P.pg j).cls == cl)
   ·clear h0;go_wp2_with fail;go_round
    case rel=>exact ⟨j+1,by omega,by go_num⟩
    case measure=>simp [intOf];omega
   have z:(P.pg j).cls=cl:=by simpa using hE
   have mM:=tC w q k c l P H.out j d (by rw [z];exact hC);rw [aBM (h5.out j d) hC z h0] at mM;clear h0 z;go_wp2_with fail;refine mM.mono ?_;rintro e _ ⟨rfl,rfl⟩;go_wp2_with fail;go_round
   case rel=>exact ⟨j+1,by omega,by go_num⟩
   case measure=>simp [intOf];omega
  have h6:j=P.n:=by omega
  subst h6;go_wp2_with fail;go_loop [8] (fun v=>∃ j:Nat,j<=P.n/\v=.int .i64 j) (fun v=>P.n - (intOf v).toNat)
  case atStart=>exact ⟨0,by omega,rfl⟩
  case round=>
   clear y;obtain ⟨j,hj,rfl⟩:=hrel
   by_cases y:j<P.n
   ·have h1:=H.out.kind j y;have h7:=h3.out j y;have hE:((P.pg j).cls == -1)=false:=by rw [beq_eq_false_iff_ne];omega
    clear h7;go_wp2_with fail;go_round
    case rel=>exact ⟨j+1,by omega,by go_num⟩
    case measure=>simp [intOf];omega
   go_wp2_with fail;exact hR.out _ _ ⟨rfl,rfl⟩
theorem aGO (w:World) (q k c l:Nat) (P:Pl) (h:eH w q k c l P) (h1:P.ok) (cl:Int) (hC:cl<0\/2<cl) :
  Calls prog 243 #[.pointer (some ⟨q,0,none⟩),.int .i64 cl] w fun e w'=>e=.returned (.tuple #[.int .i64 0,.int .i64 1])/\w=w':=by
 refine aF fun R d=>?_
 by_cases y:cl<0
 ·have z:decide (cl<0)=true:=by simpa using y
  go_in;go_wp2;exact d.out _ _ ⟨rfl,rfl⟩
 have z:decide (cl<0)=false:=by simpa using y
 have h0:decide (2<cl)=true:=by simp;omega
 go_in;go_wp2;exact d.out _ _ ⟨rfl,rfl⟩
theorem aGM (w:World) (q k c l:Nat) (P:Pl) (h:eH w q k c l P) (z:P.ok) (cl:Int) :
  Calls prog 243 #[.pointer (some ⟨q,0,none⟩),.int .i64 cl] w fun e w'=>e=.returned (.tuple #[.int .i64 (P.alloc cl).1,.int .i64 (P.alloc cl).2.1])/\eH w' q k c l (P.alloc cl).2.2/\Only [k,c,l] w w':=by
 rcases P.gW cl with y|⟨y,⟨i,d,hp,hb⟩|⟨hn,⟨i,d,hp,hb⟩|hf⟩⟩
 ·rw [Pl.kE y];exact (aGO w q k c l P h z cl y).mono fun e w' ⟨a,b⟩=>⟨a,b▸h,b▸Only.refl _ _⟩
 ·rw [Pl.fQ y d hp hb];exact aEu w q k c l P h z cl y i d hp hb
 ·rw [Pl.iI y hn d hp hb];exact aGN w q k c l P h z cl y hn i d hp hb
 rw [Pl.fU y hn hf];exact (aEv w q k c l P h z cl y hn hf).mono fun e w' ⟨a,b⟩=>⟨a,b▸h,b▸Only.refl _ _⟩
set_option maxHeartbeats 1600000
theorem aNA (w:World) (q k c l:Nat) (P:Pl) (h:eH w q k c l P) (a:Int) :
  Calls prog 273 #[.pointer (some ⟨q,0,none⟩),.int .i64 a] w (aO w (.bool (P.addr a))):=by
 refine aF fun R d=>?_;obtain ⟨c1,c2,c3,z0,z1,z2,_⟩:=h.facts;have e:=h.n24;have hb:Hid (P.addr a=(decide (0<=a) && decide (a<(P.n*16:Nat)))):=by
  show _=_;unfold Pl.addr;congr 1;rw [decide_eq_decide];omega
 by_cases y:0<=a
 ·go_in;go_wp2;exact d.out _ _ ⟨by rw [hb.out];simp [y],rfl⟩
 have z:decide (0<=a)=false:=by simpa using y
 have H0:=aA y;clear y;go_in;go_wp2;exact d.out _ _ ⟨by rw [hb.out,z];rfl,rfl⟩
structure Adr (P:Pl) (A i j:Nat):Prop where
 hi:i=A / 16
 hj:j=A % 16
 hin:i<P.n
 aAN:j<16
 hA:A=i*16+j
theorem aLc {P:Pl} {A:Nat} (y:A<16*P.n):∃ i j,Adr P A i j:=⟨_,_,rfl,rfl,by omega,by omega,by omega⟩
theorem aGL (w:World) (q k c l:Nat) (P:Pl) (h:eH w q k c l P) (h5:P.ok) (a:Int) :
  Calls prog 270 #[.pointer (some ⟨q,0,none⟩),.int .i64 a] w (aO w (.tuple #[.int .i64 (P.begin a).1,.int .i64 (P.begin a).2])):=by
 refine aF fun R hR=>?_;obtain ⟨c1,c2,c3,z0,z1,z2,_⟩:=h.facts;have x5:=h.n24;have d:=aNA w q k c l P h a
 cases ha:P.addr a with
 | false=>
  rw [Pl.nV ha] at hR;rw [ha] at d;clear ha;go_in;go_wp2_with fail;refine d.mono ?_;rintro e _ ⟨rfl,rfl⟩;go_wp2;exact hR.out _ _ ⟨rfl,rfl⟩
 | true=>
  rw [ha] at d;obtain ⟨A,rfl⟩:∃ A:Nat,a=A:=⟨a.toNat,by have:=Pl.iJ.1 ha;omega⟩;have hA:A<16*P.n:=by have:=Pl.iJ.1 ha;omega
  obtain ⟨i,j,s⟩:=aLc hA;have hq:(A:Int) / 16=(i:Int):=by have:=s.hi;omega
  have x4:i<24:=by have:=s.hin;omega
  have h9:=h.kind i s.hin
  by_cases hc:(P.pg (A / 16)).cls<0
  ·rw [Pl.jQ ha (by simpa using hc)] at hR;have hE:((P.pg i).cls == -1)=true:=by
    have:=(h5 i s.hin).neg.1 (by rw [s.hi];exact hc);simpa using this
   have h7:=s.hin;clear ha hc s;go_in;go_wp2_with fail;refine d.mono ?_;rintro e _ ⟨rfl,rfl⟩;go_wp2;exact hR.out _ _ ⟨rfl,rfl⟩
  have hE:((P.pg i).cls == -1)=false:=by
   rw [beq_eq_false_iff_ne,s.hi];omega
  have hC:IsC (P.pg i).cls:=by
   rcases (h5 i s.hin).cls with h1|h1
   ·rw [s.hi] at h1;omega
   exact h1
  have hcut:=fun wx=>zS wx _ hC;have h6:=hC.sz;have h0:=hC.div s.aAN;obtain ⟨z,hz⟩:∃ z,z=bsz (P.pg i).cls:=⟨_,rfl⟩;obtain ⟨x,hx⟩:∃ x,x=j / z:=⟨_,rfl⟩;obtain ⟨m,hm⟩:∃ m,m=x*z:=⟨_,rfl⟩;have h4:(P.pg i).live m=(P.pg i).used x:=by rw [hm,hz];exact Pg.uD hC x
  rw [<-hz,<-hx,<-hm] at h0;have x7:m<=j:=h0.2.1;have x2:(A:Int) % (z:Int)=((j - m:Nat):Int):=by
   have e1:A % z=j - m:=by
    rw [s.hA];have h2:=h0.2.2.2;rw [<-h2];rcases hC.facts with ⟨e,_⟩|⟨e,_⟩|⟨e,_⟩<;>(rw [hz,e];omega)
   rw [<-e1];simp
  have y:=h.live i s.hin m (by have:=s.aAN;omega);rw [h4] at y;have x1:((A:Int) - ((j - m:Nat):Int))=((i*16+m:Nat):Int):=by have:=s.hA;omega
  have y0:((z:Int) == 0)=false:=by simp;omega
  have x9:0<z:=by omega
  rw [<-hz] at hcut;have h7:=s.hin;have x3:m<16:=by have:=s.aAN;omega
  have h3:=s.hA;have x8:IntKind.i64.wrap ((i*16+m:Nat):Int)=((i*16+m:Nat):Int):=IntWalk.i64_in _ (by omega);have x6:j - m<=A:=by omega
  cases hu:(P.pg i).used x with
  | true=>
   have e1:P.begin (A:Int)=(((i*16+m:Nat):Int),0):=by
    rw [Pl.kD ha (by simpa using hc) (by have h1:=hu;rw [hx,hz,s.hj,s.hi] at h1;simpa using h1),hm,hx,hz,s.hj,s.hi];simp
   rw [e1] at hR;rw [hu] at y;have h8:=aA h3;clear ha hc s hu h0 h4 hm hx hz h6 hC e1 h3;go_in;go_wp2_with fail;refine d.mono ?_;rintro e _ ⟨rfl,rfl⟩;go_wp2_with fail;refine (hcut _).mono ?_;rintro e _ ⟨rfl,rfl⟩;go_wp2;exact hR.out _ _ ⟨rfl,rfl⟩
  | false=>
   have e1:P.begin (A:Int)=(0,3):=Pl.sQ ha (by simpa using hc) (by have h1:=hu;rw [hx,hz,s.hj,s.hi] at h1;simpa using h1);rw [e1] at hR;rw [hu] at y;have h8:=aA h3;clear ha hc s hu h0 h4 hm hx hz h6 hC e1 h3;go_in;go_wp2_with fail;refine d.mono ?_;rintro e _ ⟨rfl,rfl⟩;go_wp2_with fail;refine (hcut _).mono ?_;rintro e _ ⟨rfl,rfl⟩;go_wp2;exact hR.out _ _ ⟨rfl,rfl⟩
theorem nC (w:World) (q k c l:Nat) (P:Pl) (h:eH w q k c l P) (h2:P.ok) (a n:Int) :
  Calls prog 244 #[.pointer (some ⟨q,0,none⟩),.int .i64 a,.int .i64 n] w fun e w'=>
   e=.returned (.int .i64 (P.setCell a n).1)/\eH w' q k c l (P.setCell a n).2/\Only [k,c,l] w w':=by
 refine aF fun R hR=>?_;have y:=aGL w q k c l P h h2 a
 by_cases z:(P.begin a).2=0
 ·have hb:=Pl.mD z;obtain ⟨A,rfl⟩:∃ A:Nat,a=A:=⟨a.toNat,hb.2.2.2.2.2.2⟩;have hA:A<16*P.n:=by have:=Pl.iJ.1 hb.1;omega
  obtain ⟨i,j,s⟩:=aLc hA;have e1:P.setCell (A:Int) n=(0,P.set i { P.pg i with cell:=up (P.pg i).cell j n }):=by unfold Pl.setCell;rw [if_pos z,s.hj,s.hi];rfl
  rw [e1] at hR;rw [z] at y;obtain ⟨c1,c2,c3,z0,z1,z2,f0,f1,f2,_⟩:=h.facts;have h3:=h.n24;have d:=h.cells i s.hin j s.aAN;have h1:=aA (h.setCell s.hin s.aAN n);rw [<-s.hA] at d h1;have h4:A<P.n*16:=by omega
  generalize (P.begin (A:Int)).1=B at y;clear e1 z hb h s;go_in;go_wp2_with fail;refine y.mono ?_;rintro e _ ⟨rfl,rfl⟩;go_wp2;exact hR.out _ _ ⟨rfl,h1.out,(Only.refl _ _).set (by simp) _⟩
 have e1:P.setCell a n=((P.begin a).2,P):=by unfold Pl.setCell;rw [if_neg z]
 rw [e1] at hR;have h5:((P.begin a).2 != 0)=true:=by rw [bne_iff_ne];exact z
 clear z e1;go_in;go_wp2_with fail;refine y.mono ?_;rintro e _ ⟨rfl,rfl⟩;go_wp2;exact hR.out _ _ ⟨rfl,h,Only.refl _ _⟩
theorem tZ {P:Pl} (h0:P.ok) {A i j:Nat} (s:Adr P A i j):(P.pg i).live j=true↔(P.begin (A:Int)).2=0/\(P.begin (A:Int)).1=A:=by
 have hA:A<16*P.n:=by have:=s.hA;have:=s.hin;have:=s.aAN;omega
 have ha:P.addr (A:Int)=true:=Pl.iJ.2 ⟨by omega,by omega⟩;rcases (h0 i s.hin).cls with z|hC
 ·rw [Pg.nP z,Pl.jQ ha (by show (P.pg (A / 16)).cls<0;rw [<-s.hi,z];decide)];simp
 have z:¬ (P.pg (A / 16)).cls<0:=by rw [<-s.hi];rcases hC with e|e|e<;>omega
 rw [Pg.aBD hC];have h5:=hC.div s.aAN;constructor
 ·rintro ⟨d,y⟩;rw [Pl.kD ha (by simpa using z) (by rw [s.hi,s.hj] at y;simpa using y)];refine ⟨rfl,?_⟩;show ((A / 16*16+A % 16 / bsz (P.pg (A / 16)).cls*bsz (P.pg (A / 16)).cls:Nat):Int)=A;rw [<-s.hi,<-s.hj,<-d,s.hA]
 rintro ⟨d,y⟩;have hb:=Pl.mD d;refine ⟨?_,by rw [s.hi,s.hj];exact hb.2.2.1⟩;have h3:=hb.2.2.2.1;rw [y] at h3;have h4:A=A / 16*16+A % 16 / bsz (P.pg (A / 16)).cls*bsz (P.pg (A / 16)).cls:=by exact_mod_cast h3
 rw [<-s.hi,<-s.hj] at h4;have:=s.hA;omega
theorem aCy (w:World) (q k c l:Nat) (P:Pl) (h:eH w q k c l P) (x6:P.ok) (a:Int) :
  Calls prog 254 #[.pointer (some ⟨q,0,none⟩),.int .i64 a] w fun e w'=>
   e=.returned (.int .i64 (P.free a).1)/\eH w' q k c l (P.free a).2/\Only [k,c,l] w w':=by
 refine aF fun R hR=>?_;obtain ⟨c1,c2,c3,z0,z1,z2,f0,f1,f2,_⟩:=h.facts;have y8:=h.n24;have h5:=aNA w q k c l P h a
 cases ha:P.addr a with
 | false=>
  have e1:P.free a=(1,P):=by unfold Pl.free;rw [Pl.nV ha];rfl
  rw [e1] at hR;rw [ha] at h5;clear ha e1;go_in;go_wp2_with fail;refine h5.mono ?_;rintro e _ ⟨rfl,rfl⟩;go_wp2;exact hR.out _ _ ⟨rfl,h,Only.refl _ _⟩
 | true=>
  rw [ha] at h5;obtain ⟨A,rfl⟩:∃ A:Nat,a=A:=⟨a.toNat,by have:=Pl.iJ.1 ha;omega⟩;have hA:A<16*P.n:=by have:=Pl.iJ.1 ha;omega
  obtain ⟨i,j,s⟩:=aLc hA;have h3:=h.live i s.hin j s.aAN;rw [<-s.hA] at h3;have y9:A<P.n*16:=by omega
  have hq:(A:Int) / 16=(i:Int):=by have:=s.hi;omega
  have x1:=tZ x6 s;have y7:i<24:=by have:=s.hin;omega
  have x9:=s.hin;have z3:=s.aAN
  cases z:(P.pg i).live j with
  | false=>
   have e1:P.free (A:Int)=(3,P):=by
    unfold Pl.free
    by_cases h0:(P.begin (A:Int)).2=0
    ·rw [if_pos h0,if_neg (fun d=>by rw [x1.2 ⟨h0,d⟩] at z;cases z)]
    rw [if_neg h0];rcases (Pl.aKW h0).2 with d|d
    ·exfalso
     by_cases hc:(P.pg (A / 16)).cls<0
     ·rw [Pl.jQ ha (by simpa using hc)] at d;cases d
     cases hu:(P.pg (A / 16)).used (A % 16 / bsz (P.pg (A / 16)).cls) with
     | true=>rw [Pl.kD ha (by simpa using hc) (by simpa using hu)] at d;cases d
     | false=>rw [Pl.sQ ha (by simpa using hc) (by simpa using hu)] at d;cases d
    rw [d]
   rw [e1] at hR;rw [z] at h3;clear ha e1 x1 s z;go_in;go_wp2_with fail;refine h5.mono ?_;rintro e _ ⟨rfl,rfl⟩;go_wp2;exact hR.out _ _ ⟨rfl,h,Only.refl _ _⟩
  | true=>
   obtain ⟨b1,b2⟩:=x1.1 z;have hC:IsC (P.pg i).cls:=by
    rcases (x6 i s.hin).cls with d|d
    ·rw [Pg.nP d] at z;cases z
    exact d
   have x8:(P.pg i).cls≠-1:=by rcases hC with e|e|e<;>omega
   obtain ⟨x,hx⟩:∃ x,x=j / bsz (P.pg i).cls:=⟨_,rfl⟩;have x5:=(Pg.aBD hC j).1 z;rw [<-hx] at x5;have hrel:Hid ((P.pg i).release x=if cnt (up (P.pg i).used x false) 8=0 then { P.pg i with used:=up (P.pg i).used x false,cls:=-1 } else { P.pg i with used:=up (P.pg i).used x false }):=by
    show _=_;unfold Pg.release;split<;>rfl
   have e1:P.free (A:Int)=(0,P.set i ((P.pg i).release x)):=by
    unfold Pl.free;rw [if_pos b1,if_pos b2,hx,s.hj,s.hi];simp
   rw [e1] at hR;rw [z] at h3;have d:=h.aJb s.hin s.aAN false (up (P.pg i).used x false) (fun y hy=>by rw [Pg.aJQ hC x false y,<-x5.1]);have x4:({ P.pg i with used:=up (P.pg i).used x false }:Pg).okw:=.inr ⟨hC,fun y hy=>by
    show up (P.pg i).used x false y=false
    by_cases e:y=x
    ·rw [e,bM]
    rw [aU _ _ e];exact (x6 i s.hin).high x8 y hy⟩
   have h4:=nH _ q k c l _ d i s.hin (by rw [Pl.aP];exact x4);rw [Pl.aP,<-s.hA] at h4;have x7:=d.kind i s.hin;rw [Pl.aP,<-s.hA] at x7;obtain ⟨d1,d2,d3,y0,y1,y2,g0,g1,g2,_⟩:=d.facts;have y5:(P.set i { P.pg i with used:=up (P.pg i).used x false }).n=P.n:=rfl;rw [<-s.hA] at y0 y1 y2 g0;rw [y5] at y0;have H1:=aA d;rw [<-s.hA] at H1;have y6:=h.ne;obtain ⟨n1,n2,n3,n4,n5,n6⟩:=y6;have y3:=aA x4;have x3:Hid (({ P.pg i with used:=up (P.pg i).used x false }:Pg).count=cnt (up (P.pg i).used x false) 8):=rfl;clear ha e1 x1 s z b1 b2 hx x5 d hC x4 g1 g2 x8;generalize y4:({ P.pg i with used:=up (P.pg i).used x false }:Pg).count=cv at h4 x3;clear y4
   cases hz:((cv:Int) == 0)
   ·have h6:¬ cnt (up (P.pg i).used x false) 8=0:=by rw [<-x3.out];simpa using hz
    have HZ:=aA h6;clear h6;go_in;go_wp2_with fail;refine h5.mono ?_;rintro e _ ⟨rfl,rfl⟩;go_wp2_with fail;refine h4.mono ?_;rintro e _ ⟨rfl,rfl⟩;go_wp2_with fail;refine hR.out _ _ ⟨rfl,?_,(Only.refl _ _).set (by simp) _⟩;rw [hrel.out,if_neg HZ.out];exact H1.out
   have h6:cnt (up (P.pg i).used x false) 8=0:=by rw [<-x3.out];simpa using hz
   have x2:=qB.1 h6;have h7:∀ y,up (P.pg i).used x false y=false:=by
    intro y;rcases y3.out with ⟨e1,e2⟩|⟨e1,e2⟩
    ·exact e2 y
    by_cases hy:y<8
    ·exact x2 y hy
    have h8:=e1.sz;have h9:=e2 y (by omega);exact h9
   have h2:=H1.out.setKind (i:=i) x9 (-1) (fun y hy=>by
    rw [Pl.aP];rw [Pg.nP rfl];unfold Pg.live;show false=(_ && _ && up (P.pg i).used x false _);rw [h7];simp)
   rw [Pl.aP,Pl.set_set] at h2;have H2:=aA h2;have HZ:=aA h6;clear h6 x2 h7 h2;go_in;go_wp2_with fail;refine h5.mono ?_;rintro e _ ⟨rfl,rfl⟩;go_wp2_with fail;refine h4.mono ?_;rintro e _ ⟨rfl,rfl⟩;go_wp2_with fail;refine hR.out _ _ ⟨rfl,?_,((Only.refl _ _).set (by simp) _).set (by simp) _⟩;rw [hrel.out,if_pos HZ.out];exact H2.out
end Go.Proofs.YthflghdaejbdkaaGreat
