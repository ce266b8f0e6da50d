/- Lemmas of this claim. -/
import Derived.Test.YthflghdaejbdkaaGreatRows
import Derived.Test.YthflghdaejbdkaaGreatXcLib
import Derived.Test.YthflghdaejbdkaaGreatXcBModel
import Derived.IntWalk
namespace Go.Proofs.YthflghdaejbdkaaGreat
open _root_.Go.Proofs.Tryz (prog)
open Go.RowKit
set_option maxHeartbeats 400000
set_option maxRecDepth 100000
set_option linter.unusedVariables false
def Pg.at (p:Pg) (r:Nat):Value:=if r=0 then .int .i64 p.cls else if r<9 then .bool (p.used (r - 1)) else .int .i64 (p.cell (r - 9))
def Pg.row (p:Pg):List Value:=(List.range 25).map p.at
def gK (w:World) (b o:Nat) (p:Pg):Prop:=∀ r,r<25->w.cell? ⟨b,o+r,none⟩=some (p.at r)
theorem gK.cls {w:World} {b o:Nat} {p:Pg} (h:gK w b o p):w.cell? ⟨b,o,none⟩=some (.int .i64 p.cls):=h 0 (by decide)
theorem gK.used {w:World} {b o:Nat} {p:Pg} (h:gK w b o p) {k:Nat} (y:k<8):w.cell? ⟨b,o+1+k,none⟩=some (.bool (p.used k)):=by
 have:=h (1+k) (by omega);rw [<-Nat.add_assoc] at this;rw [this,Pg.at,if_neg (by omega),if_pos (by omega),Nat.add_sub_cancel_left]
theorem gK.cell {w:World} {b o:Nat} {p:Pg} (h:gK w b o p) {k:Nat} (y:k<16):w.cell? ⟨b,o+9+k,none⟩=some (.int .i64 (p.cell k)):=by
 have:=h (9+k) (by omega);rw [<-Nat.add_assoc] at this;rw [this,Pg.at,if_neg (by omega),if_neg (by omega),Nat.add_sub_cancel_left]
theorem gK.only {w w':World} {b o:Nat} {p:Pg} {F:List Nat} (h:gK w b o p) (y:Only F w w') (hb:b∉F):gK w' b o p:=fun r z=>y.cell (h r z) hb
theorem gK.set {w:World} {b o:Nat} {p:Pg} (h:gK w b o p) (r:Nat) (v:Value) (q:Pg) (hr:r<25) (d:q.at r=v) (z:∀ s,s<25->s≠r->q.at s=p.at s) :
  gK (w.setCell ⟨b,o+r,none⟩ v) b o q:=by
 intro s hs
 by_cases e:s=r
 ·subst e;rw [d];exact World.cell?_setCell_same _ _ _ (h s hs)
 rw [World.cell?_setCell_other _ _ _ _ (fun y=>by injection y with _ h3 _;omega),z s hs e];exact h s hs
theorem gK.other {w:World} {b o:Nat} {p:Pg} (h:gK w b o p) {a:Addr} (v:Value) (y:a.block=b->a.spot=none->a.off<o\/o+25<=a.off):gK (w.setCell a v) b o p:=by
 intro s hs;rw [World.cell?_setCell_other _ _ _ _ (by
  intro e;have:=y (by rw [e]) (by rw [e]);rw [e] at this;simp at this;omega)]
 exact h s hs
theorem kQ {α:Type} {f:Nat->α} {n j:Nat} {v:α} (h:((List.range n).map f)[j]?=some v):j<n/\v=f j:=by
 have y:j<n:=by have:=(List.getElem?_eq_some_iff.1 h).1;simpa using this
 rw [List.getElem?_map,List.getElem?_range y] at h;simp at h;exact ⟨y,h.symm⟩
theorem Pg.aPR {p:Pg} {j:Nat} {v:Value} (h:p.row[j]?=some v):j<25/\v=p.at j:=kQ h
theorem gK.row {w:World} {b o:Nat} {p:Pg} (h:gK w b o p):∀ j v,p.row[j]?=some v->w.cell? ⟨b,o+j,none⟩=some v:=by
 intro j v z;obtain ⟨y,rfl⟩:=Pg.aPR z;exact h j y
def aBi (p:Pg):List Value:=(List.range 8).map fun k=>.bool (p.used k)
theorem aNV {p:Pg} {j:Nat} {v:Value} (h:(aBi p)[j]?=some v):j<8/\v=.bool (p.used j):=kQ h
theorem aAi (w:World) (p:Pg) (k:Nat) (y:k<8):(Instr.index 229 (.agg (aBi p).toArray) (.int .i64 k)).run prog w=.ok (.bool (p.used k)) w:=
 aBp w 229 4 8 _ k _ Tryz.underlying229 .bool Tryz.underlying4 rfl (by kernel_rfl) y (by simp [aBi,y])
theorem oU (w:World) (b o:Nat) (p:Pg) (h:gK w b o p):Calls prog 239 #[.pointer (some ⟨b,o,none⟩)] w (aO w (.int .i64 p.count)):=by
 refine aF fun R hR=>?_;have H:=aA h;clear h;go_in;go_wp2_with (refine eU rfl 229 _ rfl b (o+1) rfl (aBi p) _ Tryz.underlying229 rfl (by kernel_rfl) (fun j v hv=>?c1) ?_)
 case c1=>
  obtain ⟨e,rfl⟩:=aNV hv;exact H.out.used e
 go_loop [3,10] (fun n i=>∃ k:Nat,k<=8/\i=.int .i64 k/\n=.int .i64 (cnt p.used k)) (fun _ i=>8 - (intOf i).toNat)
 case atStart=>exact ⟨0,by omega,rfl,rfl⟩
 case round=>
  obtain ⟨k,hk,rfl,rfl⟩:=hrel
  by_cases z:k<8
  ·have y:=fun wx=>aAi wx p k z;have h0:=qN p.used k;have hs:Hid (cnt p.used (k+1)=cnt p.used k+if p.used k then 1 else 0):=rfl
   cases d:p.used k<;>(rw [d] at y;rw [d] at hs)<;>(
    go_wp2_with fail;go_round
    case rel=>exact ⟨k+1,by omega,by go_num,by rw [hs.out];go_num⟩
    case measure=>simp [intOf];omega)
  obtain rfl:k=8:=by omega
  go_wp2;exact hR.out _ _ ⟨rfl,rfl⟩
theorem sW (w:World) (c:Int) (h:IsC c):Calls prog 208 #[.int .i64 c] w (aO w (.int .i64 (bsz c))):=by
 refine aF fun R y=>?_;rcases h with rfl|rfl|rfl<;>
 (go_in
  go_wp2;exact y.out _ _ ⟨rfl,rfl⟩)
theorem aFC (w:World) (c:Int) (h:IsC c):Calls prog 241 #[.int .i64 c] w (aO w (.int .i64 (bpt c))):=by
 refine aF fun R z=>?_;have hs:=h.facts;go_in;go_wp2_with fail;refine (sW _ _ h).mono ?_;rintro e _ ⟨rfl,rfl⟩;rcases hs with ⟨h1,h2⟩|⟨h1,h2⟩|⟨h1,h2⟩<;>
 (rw [h1]
  have y:=aA h2;clear h1 h2;go_wp2;exact z.out _ _ ⟨by rw [y.out];rfl,rfl⟩)
theorem xY (w:World) (b o:Nat) (p:Pg) (h:gK w b o p) (c:Int) (hc:IsC c):Calls prog 238 #[.pointer (some ⟨b,o,none⟩),.int .i64 c] w (aO w (.bool (p.partly c))):=by
 refine aF fun R y=>?_;have H:=aA h;have h0:=h.cls;have d:Hid (p.partly c=(p.cls == c && decide (p.count<bpt c))):=rfl;clear h
 cases z:(p.cls == c)
 ·go_in;go_wp2;exact y.out _ _ ⟨by rw [d.out,z];rfl,rfl⟩
 go_in;go_wp2_with fail;refine (oU _ _ _ _ H.out).mono ?_;rintro e _ ⟨rfl,rfl⟩;go_wp2_with fail;refine (aFC _ _ hc).mono ?_;rintro e _ ⟨rfl,rfl⟩;go_wp2_with fail
 all_goals (refine y.out _ _ ⟨?_,rfl⟩;rw [d.out,z];simp)
theorem aHr (w:World) (b o n cap:Nat) (u:Nat->Bool) (hn:n<=64) (hc:∀ k,k<n->w.cell? ⟨b,o+k,none⟩=some (.bool (u k))) (x:Bool) :
  Calls prog 240 #[.slice (some ⟨b,o,none⟩) n cap,.bool x] w (aO w (.int .i64 (idx (fun k=>u k == x) n))):=by
 refine aF fun R hR=>?_;have H:=aA hc;clear hc;go_in;go_wp2_with fail;go_loop [8] (fun i=>∃ k:Nat,k<=n/\i=.int .i64 k/\Hid (∀ j,j<k->(u j == x)=false)) (fun i=>n - (intOf i).toNat)
 case atStart=>exact ⟨0,by omega,rfl,fun j hj=>by omega⟩
 case round=>
  obtain ⟨k,hk,rfl,d⟩:=hrel
  by_cases y:k<n
  ·have h1:=H.out k y
   cases z:(u k == x)
   ·have h0:(x == u k)=false:=by rw [<-z];cases x<;>cases u k<;>rfl
    go_wp2_with fail;go_round
    case rel=>exact ⟨k+1,by omega,by go_num,fun j hj=>by
     by_cases e:j=k
     ·rw [e];exact z
     exact d.out j (by omega)⟩
    case measure=>simp [intOf];omega
   have h0:(x == u k)=true:=by rw [<-z];cases x<;>cases u k<;>rfl
   go_wp2_with fail;refine hR.out _ _ ⟨?_,rfl⟩;have e1:=kV (f:=fun k=>u k == x) y z d.out;rw [kT (by rw [e1];exact y),e1]
  obtain rfl:k=n:=by omega
  go_wp2_with fail;refine hR.out _ _ ⟨?_,rfl⟩;rw [rM (by rw [fP (f:=fun k=>u k == x) d.out];omega)]
theorem gK.drewN {w:World} {b o:Nat} {p:Pg} (h:gK w b o p) (n:Nat):gK (w.drewN n) b o p:=h
theorem aGc (w:World) (b o:Nat) (p:Pg) (h:gK w b o p) (z:IsC p.cls) (x:Bool) :
  Calls prog 209 #[.pointer (some ⟨b,o,none⟩),.bool x] w fun e w'=>
   e=.returned (.int .i64 (idx (fun k=>p.used k == x) (bpt p.cls)))/\∃ n,w'=w.drewN n:=by
 refine aF fun R d=>?_;have H:=aA h;have h0:=h.cls;have y:=z.sz;have h2:bpt p.cls<=8:=by omega
 have h3:(bpt p.cls:Int)<=8:=by omega
 have h1:(0:Int)<=bpt p.cls:=by omega
 clear h y;go_in;go_wp2_with fail;go_quiet (first|(go_at_call 241;exact aT (aFC _ _ z))|(go_at_call 240;exact aT (aHr _ b (o+1) (bpt p.cls) _ p.used (by omega) (fun k hk=>(H.out.drewN _).used (by omega)) x)));go_wp2;exact d.out _ _ ⟨rfl,_,rfl⟩
theorem zL (w:World) (b o:Nat) (p:Pg) (h:gK w b o p) (z:IsC p.cls) (d:p.gap p.cls<bpt p.cls) :
  Calls prog 209 #[.pointer (some ⟨b,o,none⟩),.bool false] w fun e w'=>e=.returned (.int .i64 (p.gap p.cls))/\∃ n,w'=w.drewN n:=by
 refine (aGc w b o p h z false).mono ?_;rintro e w' ⟨rfl,hn⟩;refine ⟨?_,hn⟩;have y:fst (fun k=>p.used k == false) (bpt p.cls)=p.gap p.cls:=rY fun j _=>by cases p.used j<;>rfl
 rw [kT (by rw [y];exact d),y]
theorem aKH (w:World) (b o:Nat) (p:Pg) (h:gK w b o p) (z:IsC p.cls) (d:p.top p.cls<bpt p.cls) :
  Calls prog 209 #[.pointer (some ⟨b,o,none⟩),.bool true] w fun e w'=>e=.returned (.int .i64 (p.top p.cls))/\∃ n,w'=w.drewN n:=by
 refine (aGc w b o p h z true).mono ?_;rintro e w' ⟨rfl,hn⟩;refine ⟨?_,hn⟩;have y:fst (fun k=>p.used k == true) (bpt p.cls)=p.top p.cls:=rY fun j _=>by cases p.used j<;>rfl
 rw [kT (by rw [y];exact d),y]
theorem Pg.aPj (p:Pg) (k:Nat) (y:k<8):p.at (1+k)=.bool (p.used k):=by rw [Pg.at,if_neg (by omega),if_pos (by omega),Nat.add_sub_cancel_left]
theorem Pg.aPk (p:Pg) (k:Nat):p.at (9+k)=.int .i64 (p.cell k):=by rw [Pg.at,if_neg (by omega),if_neg (by omega),Nat.add_sub_cancel_left]
theorem Pg.at_eq {p q:Pg} {s:Nat} (d:s=0->p.cls=q.cls) (e:1<=s->s<9->p.used (s - 1)=q.used (s - 1)) (h2:9<=s->p.cell (s - 9)=q.cell (s - 9)):p.at s=q.at s:=by
 unfold Pg.at
 by_cases y:s=0
 ·rw [if_pos y,if_pos y,d y]
 rw [if_neg y,if_neg y]
 by_cases z:s<9
 ·rw [if_pos z,if_pos z,e (by omega) z]
 rw [if_neg z,if_neg z,h2 (by omega)]
theorem gK.aBo {w:World} {b o:Nat} {p:Pg} (h:gK w b o p) {k:Nat} (y:k<8) (v:Bool):gK (w.setCell ⟨b,o+1+k,none⟩ (.bool v)) b o { p with used:=up p.used k v }:=by
 rw [Nat.add_assoc];refine h.set (1+k) _ _ (by omega) (by rw [Pg.aPj _ _ y];show Value.bool (up p.used k v k)=_;rw [bM]) fun s hs z=>Pg.at_eq (fun _=>rfl) (fun h1 h2=>aU _ _ (by omega)) (fun _=>rfl)
theorem gK.aJc {w:World} {b o:Nat} {p:Pg} (h:gK w b o p) (v:Int):gK (w.setCell ⟨b,o,none⟩ (.int .i64 v)) b o { p with cls:=v }:=
 h.set 0 _ _ (by omega) rfl fun s hs y=>Pg.at_eq (fun e=>absurd e y) (fun _ _=>rfl) (fun _=>rfl)
theorem gK.setCell {w:World} {b o:Nat} {p:Pg} (h:gK w b o p) {k:Nat} (z:k<16) (v:Int):gK (w.setCell ⟨b,o+9+k,none⟩ (.int .i64 v)) b o { p with cell:=up p.cell k v }:=by
 rw [Nat.add_assoc];refine h.set (9+k) _ _ (by omega) (by rw [Pg.aPk];show Value.int .i64 (up p.cell k v k)=_;rw [bM]) fun s hs y=>Pg.at_eq (fun _=>rfl) (fun _ _=>rfl) (fun _=>aU _ _ (by omega))
structure bZ (b o:Nat) (w w':World):Prop where
 only:Only [b] w w'
 row:∀ T cs,Row w b T cs->∃ cs',Row w' b T cs'
 cell:∀ x,x<o\/o+25<=x->w'.cell? ⟨b,x,none⟩=w.cell? ⟨b,x,none⟩
theorem bZ.refl (b o:Nat) (w:World):bZ b o w w:=⟨Only.refl _ _,fun _ cs h=>⟨cs,h⟩,fun _ _=>rfl⟩
theorem bZ.set {b o:Nat} {w w':World} (h:bZ b o w w') (r:Nat) (d:r<25) (v:Value):bZ b o w (w'.setCell ⟨b,o+r,none⟩ v):=
 ⟨h.only.set (by simp) _,fun T cs z=>by obtain ⟨cs',h1⟩:=h.row T cs z;exact ⟨_,h1.set _ _⟩,fun x hx=>by
  rw [World.cell?_setCell_other _ _ _ _ (fun y=>by injection y with _ h3 _;omega)];exact h.cell x hx⟩
theorem bZ.aPv {b o:Nat} {w w':World} (h:bZ b o w w') {k:Nat} (y:k<8) (v:Value):bZ b o w (w'.setCell ⟨b,o+1+k,none⟩ v):=by rw [Nat.add_assoc];exact h.set _ (by omega) v
theorem bZ.drewN {b o:Nat} {w w':World} (h:bZ b o w w') (n:Nat):bZ b o w (w'.drewN n):=⟨h.only.drewN n,h.row,h.cell⟩
theorem aAB (w:World) (b o:Nat) (p:Pg) (h:gK w b o p) (d:∀ i,w.frozen? ⟨b,i,none⟩=false) (k:Nat) (hk:k<8) :
  Calls prog 210 #[.pointer (some ⟨b,o,none⟩),.int .i64 k] w fun e w'=>e=.returned (.tuple #[])/\gK w' b o (p.release k)/\bZ b o w w':=by
 refine aF fun R hR=>?_;have h2:=d (o+1+k);have h3:=d o;have h1:=h.used hk;have z:=aA (h.aBo hk false);have O1:=aA ((bZ.refl b o w).aPv hk (.bool false));have hrel:Hid (p.release k=if cnt (up p.used k false) 8=0 then { p with used:=up p.used k false,cls:=-1 } else { p with used:=up p.used k false }):=by
  show _=_;unfold Pg.release;split<;>rfl
 clear h d;go_in;go_wp2_with fail;refine (oU _ _ _ _ z.out).mono ?_;rintro e w1 ⟨rfl,rfl⟩;have h0:=z.out.cls
 cases hz:(((Pg.count { p with used:=up p.used k false }:Nat):Int) == 0)
 ·have y:¬ cnt (up p.used k false) 8=0:=by simpa [Pg.count] using hz
  go_wp2_with fail;go_end0;refine hR.out _ _ ⟨rfl,?_,O1.out⟩;rw [hrel.out,if_neg y];exact z.out
 have y:cnt (up p.used k false) 8=0:=by simpa [Pg.count] using hz
 have HZ:=aA y;clear y;go_wp2_with fail;go_end0;refine hR.out _ _ ⟨rfl,?_,O1.out.set 0 (by omega) _⟩;rw [hrel.out,if_pos HZ.out];exact z.out.aJc _
structure dP (w:World) (p b:Nat) (P:Pl):Prop where
 hp:∃ T cap,Row w p T [.slice (some ⟨b,0,none⟩) P.n cap]
 hb:∃ T cs,Row w b T cs
 pg:∀ i,i<P.n->gK w b (i*25) (P.pg i)
 ne:p≠b
 n1:1<=P.n
 n24:P.n<=24
 ok:P.ok
theorem dP.only {w w':World} {p b:Nat} {P:Pl} {F:List Nat} (h:dP w p b P) (k:Only F w w') (d:p∉F) (z:b∉F):dP w' p b P:=
 ⟨h.hp.imp fun _ x=>x.imp fun _ y=>k.row y d,h.hb.imp fun _ x=>x.imp fun _ y=>k.row y z,fun i hi=>(h.pg i hi).only k z,h.ne,h.n1,h.n24,h.ok⟩
theorem dP.drewN {w:World} {p b:Nat} {P:Pl} (h:dP w p b P) (n:Nat):dP (w.drewN n) p b P:=h.only ((Only.refl [] w).drewN n) (by simp) (by simp)
theorem dP.facts {w:World} {p b:Nat} {P:Pl} (h:dP w p b P):∃ cap,w.cell? ⟨p,0,none⟩=some (.slice (some ⟨b,0,none⟩) P.n cap)/\w.frozen? ⟨p,0,none⟩=false/\(∀ i,w.frozen? ⟨b,i,none⟩=false)/\p<w.heap.size/\b<w.heap.size:=by
 obtain ⟨⟨T,cap,y⟩,⟨z,cs,hb⟩,_⟩:=h;exact ⟨cap,y.cell 0 rfl,y.free 0,hb.free,y.lt,hb.lt⟩
theorem dP.turn {w w':World} {p b:Nat} {P:Pl} (h:dP w p b P) {i:Nat} (hi:i<P.n) {x:Pg} (hx:gK w' b (i*25) x) (k:bZ b (i*25) w w') (ok:(P.set i x).ok):dP w' p b (P.set i x):=by
 refine ⟨h.hp.imp fun _ y=>y.imp fun _ z=>k.only.row z (by simpa using h.ne),h.hb.imp fun T y=>by obtain ⟨cs,hc⟩:=y;exact k.row T cs hc,fun j d=>?_,h.ne,h.n1,h.n24,ok⟩
 by_cases e:j=i
 ·subst e;rw [Pl.aP];exact hx
 rw [Pl.aV _ _ e];intro r hr;rw [k.cell _ (by omega)];exact h.pg j d r hr
theorem iY (w:World) (p b:Nat) (P:Pl) (h:dP w p b P):Calls prog 205 #[.pointer (some ⟨p,0,none⟩)] w (aO w (.bool false)):=by
 refine aF fun R y=>?_;obtain ⟨cap,d,hf,_⟩:=h.facts;have e:=h.n1;have z:=h.n24;have hn:((P.n:Int) == 0)=false:=by simp;omega
 clear h;go_in;go_wp2;exact y.out _ _ ⟨rfl,rfl⟩
def aMv (c:Int):Bool:=decide (0<=c) && decide (c<3)
theorem wO {c:Int}:aMv c=true↔IsC c:=by unfold aMv IsC;simp;omega
theorem sO (w:World) (p b:Nat) (P:Pl) (h:dP w p b P) (c:Int):Calls prog 246 #[.pointer (some ⟨p,0,none⟩),.int .i64 c] w (aO w (.bool (aMv c))):=by
 refine aF fun R d=>?_;have hb:Hid (aMv c=(decide (0<=c) && decide (c<3))):=rfl
 by_cases y:0<=c
 ·go_in;go_wp2_with fail;refine (iY _ _ _ _ h).mono ?_;rintro e _ ⟨rfl,rfl⟩;go_wp2;exact d.out _ _ ⟨by rw [hb.out];simp [y],rfl⟩
 have z:decide (0<=c)=false:=by simpa using y
 have H0:=aA y;clear y;go_in;go_wp2_with fail;refine (iY _ _ _ _ h).mono ?_;rintro e _ ⟨rfl,rfl⟩;go_wp2;exact d.out _ _ ⟨by rw [hb.out,z];rfl,rfl⟩
theorem qI (w:World) (p b:Nat) (P:Pl) (h:dP w p b P) (a:Int):Calls prog 257 #[.pointer (some ⟨p,0,none⟩),.int .i64 a] w (aO w (.bool (P.addr a))):=by
 refine aF fun R d=>?_;obtain ⟨cap,hc,hf,_⟩:=h.facts;have h1:=h.n24;have hb:Hid (P.addr a=(decide (0<=a) && decide (a<16*P.n))):=rfl
 by_cases y:0<=a
 ·go_in;go_wp2_with fail;refine (iY _ _ _ _ h).mono ?_;rintro e _ ⟨rfl,rfl⟩;go_wp2;exact d.out _ _ ⟨by rw [hb.out];simp [y],rfl⟩
 have z:decide (0<=a)=false:=by simpa using y
 have H0:=aA y;clear y;go_in;go_wp2_with fail;refine (iY _ _ _ _ h).mono ?_;rintro e _ ⟨rfl,rfl⟩;go_wp2;exact d.out _ _ ⟨by rw [hb.out,z];rfl,rfl⟩
theorem aKZ (w:World) (p:Pg) (d:Nat) (c:Int) (hc:IsC c) (y:w.cell? ⟨d,0,none⟩=some (.int .i64 c)) :
  Calls prog 248 #[.agg p.row.toArray,.pointer (some ⟨d,0,none⟩)] w fun e w'=>e=.returned (.bool (p.partly c))/\Only [] w w':=by
 refine aF fun R hR=>?_;have h0:=World.block_lt_of_cell? w _ y;have z:gK (w.alloc (.cells p.row.toArray 232)) w.heap.size 0 p:=by
  intro r hr;have:=(Row.new w 232 p.row).cell r (v:=p.at r) (by simp [Pg.row,hr]);simpa using this
 have HP:=aA z;clear z;go_in;go_wp2_with fail;refine (xY _ _ _ _ HP.out c hc).mono ?_;rintro e _ ⟨rfl,rfl⟩;go_wp2;exact hR.out _ _ ⟨rfl,(Only.refl _ _).alloc _⟩
theorem aKY (w:World) (p:Pg) :
  Calls prog 249 #[.agg p.row.toArray] w fun e w'=>e=.returned (.bool (decide (p.cls<0)))/\Only [] w w':=by
 refine aF fun R y=>?_;have z:(w.alloc (.cells p.row.toArray 232)).cell? ⟨w.heap.size,0,none⟩=some (.int .i64 p.cls):=(Row.new w 232 p.row).cell 0 (by rfl);go_in;go_wp2;exact y.out _ _ ⟨rfl,(Only.refl _ _).alloc _⟩
theorem uJ (w:World) (b n cap:Nat) (f:Nat->Pg) (hn:n<=24) (hp:∀ i,i<n->gK w b (i*25) (f i)) (cb:Nat) (c:Int) (hc:IsC c) (z:w.cell? ⟨cb,0,none⟩=some (.int .i64 c)) :
  Calls prog 247 #[.slice (some ⟨b,0,none⟩) n cap,.func (.func 248) #[] #[.pointer (some ⟨cb,0,none⟩)]] w fun e w'=>e=.returned (.int .i64 (idx (fun i=>(f i).partly c) n))/\Only [] w w':=by
 refine aF fun R hR=>?_;have H:=aA hp;clear hp;go_in;go_wp2;go_loopw [8] (fun i wr=>∃ k:Nat,k<=n/\i=.int .i64 k/\Hid (∀ j,j<k->((f j).partly c)=false)/\Only [] w wr) (fun i _=>n - (intOf i).toNat)
 case atStart=>exact ⟨0,by omega,rfl,fun j hj=>by omega,Only.refl _ _⟩
 case round=>
  obtain ⟨k,hk,rfl,hf,d⟩:=hrel
  by_cases y:k<n
  ·have h1:=(H.out k y).only d (by simp);have HP:=aA h1;clear h1;go_wp2_with (refine eU rfl 232 _ rfl b (k*25) rfl (f k).row _ Tryz.underlying232 rfl (by kernel_rfl) HP.out.row ?_);refine (aKZ _ _ _ c hc (d.cell z (by simp))).mono ?_;rintro e w2 ⟨rfl,o2⟩;have h0:=d.trans o2 (by simp);clear o2 d HP
   cases hu:((f k).partly c)
   ·go_wp2_with fail;refine ⟨⟨k+1,by omega,by go_num,fun j hj=>?_,h0⟩,by simp [intOf];omega⟩
    by_cases e:j=k
    ·rw [e];exact hu
    exact hf.out j (by omega)
   go_wp2_with fail;refine hR.out _ _ ⟨?_,h0⟩;have e1:=kV (f:=fun i=>(f i).partly c) y hu hf.out;rw [kT (by rw [e1];exact y),e1];rfl
  obtain rfl:k=n:=by omega
  go_wp2_with fail;refine hR.out _ _ ⟨?_,d⟩;rw [rM (by rw [fP (f:=fun i=>(f i).partly c) hf.out];omega)];rfl
theorem aAM (w:World) (b n cap:Nat) (f:Nat->Pg) (hn:n<=24) (hp:∀ i,i<n->gK w b (i*25) (f i)) :
  Calls prog 247 #[.slice (some ⟨b,0,none⟩) n cap,.func (.func 249) #[] #[]] w fun e w'=>e=.returned (.int .i64 (idx (fun i=>decide ((f i).cls<0)) n))/\Only [] w w':=by
 refine aF fun R hR=>?_;have H:=aA hp;clear hp;go_in;go_wp2;go_loopw [8] (fun i wr=>∃ k:Nat,k<=n/\i=.int .i64 k/\Hid (∀ j,j<k->(decide ((f j).cls<0))=false)/\Only [] w wr) (fun i _=>n - (intOf i).toNat)
 case atStart=>exact ⟨0,by omega,rfl,fun j hj=>by omega,Only.refl _ _⟩
 case round=>
  obtain ⟨k,hk,rfl,hf,ho⟩:=hrel
  by_cases y:k<n
  ·have d:=(H.out k y).only ho (by simp);have HP:=aA d;clear d;go_wp2_with (refine eU rfl 232 _ rfl b (k*25) rfl (f k).row _ Tryz.underlying232 rfl (by kernel_rfl) HP.out.row ?_);refine (aKY _ _).mono ?_;rintro e w2 ⟨rfl,o2⟩;have z:=ho.trans o2 (by simp);clear o2 ho HP
   cases hu:(decide ((f k).cls<0))
   ·go_wp2_with fail;refine ⟨⟨k+1,by omega,by go_num,fun j hj=>?_,z⟩,by simp [intOf];omega⟩
    by_cases e:j=k
    ·rw [e];exact hu
    exact hf.out j (by omega)
   go_wp2_with fail;refine hR.out _ _ ⟨?_,z⟩;have e1:=kV (f:=fun i=>decide ((f i).cls<0)) y hu hf.out;rw [kT (by rw [e1];exact y),e1];rfl
  obtain rfl:k=n:=by omega
  go_wp2_with fail;refine hR.out _ _ ⟨?_,ho⟩;rw [rM (by rw [fP (f:=fun i=>decide ((f i).cls<0)) hf.out];omega)];rfl
theorem gK.setCells {w:World} {b o:Nat} {p:Pg} (h:gK w b o p) (y n:Nat) (hn:y+n<=16) (f:Nat->Int) :
  gK (w.setCells b (o+9+y) ((List.range n).map fun j=>Value.int .i64 (f j))) b o { p with cell:=fun j=>if y<=j/\j<y+n then f (j - y) else p.cell j }:=by
 intro s hs;have z:((List.range n).map fun j=>Value.int .i64 (f j)).length=n:=by simp
 by_cases d:9+y<=s/\s<9+y+n
 ·obtain ⟨e,h2⟩:=d;have:=World.cell?_setCells_in b ((List.range n).map fun j=>Value.int .i64 (f j)) (o+9+y) w (fun j hj=>by
   rw [z] at hj;have:=h (9+y+j) (by omega);rw [show o+9+y+j=o+(9+y+j) by omega,this];rfl) (s - 9 - y) (by rw [z];omega)
  rw [show o+9+y+(s - 9 - y)=o+s by omega] at this;rw [this];simp only [List.getElem_map,List.getElem_range];unfold Pg.at
  rw [if_neg (by omega),if_neg (by omega)];simp only [];rw [if_pos (by omega)]
 rw [World.cell?_setCells_out b _ _ _ _ (fun _ _=>by simp only [z];omega),h s hs];refine congrArg some (Pg.at_eq (fun _=>rfl) (fun _ _=>rfl) fun h9=>?_);show _=(if _ then _ else _);rw [if_neg (by omega)]
theorem bZ.setCells {b o:Nat} {w w':World} (h:bZ b o w w') (z n:Nat) (hn:z+n<=16) (f:Nat->Int):bZ b o w (w'.setCells b (o+9+z) ((List.range n).map fun j=>Value.int .i64 (f j))):=by
 have y:((List.range n).map fun j=>Value.int .i64 (f j)).length=n:=by simp
 refine ⟨h.only.setCells (by simp) _ _,fun T cs e=>?_,fun x hx=>?_⟩
 ·obtain ⟨h0,d⟩:=h.row T cs e;exact d.setCells _ _
 rw [World.cell?_setCells_out b _ _ _ _ (fun _ _=>by simp only [y];omega)];exact h.cell x hx
set_option maxHeartbeats 1600000
theorem fQ (w:World) (p b:Nat) (P:Pl) (h:dP w p b P) (c:Int) (hc:IsC c) (i:Nat) (hi:i<P.n) (hp:(P.pg i).partly c=true) (hb:∀ j,j<i->(P.pg j).partly c=false) :
  Calls prog 219 #[.pointer (some ⟨p,0,none⟩),.int .i64 c] w fun e w'=>
   e=.returned (.tuple #[.int .i64 ((16*i+(P.pg i).gap c*bsz c:Nat):Int),.int .i64 0])/\dP w' p b (P.set i ((P.pg i).take c ((P.pg i).gap c) fun _=>0))/\Only [b] w w':=by
 refine aF fun R hR=>?_;have y7:Hid (aMv c=true):=wO.2 hc;have y2:Hid (idx (fun i=>(P.pg i).partly c) P.n=(i:Int)):=by
  have e1:=kV (f:=fun i=>(P.pg i).partly c) hi hp hb;show _=_;rw [kT (by rw [e1];exact hi),e1]
 obtain ⟨y,h1⟩:∃ x,x=P.pg i:=⟨_,rfl⟩;have hg:y.gap c<bpt c:=by rw [h1];exact ((h.ok i hi).gap hc hp).1
 have d:y.cls=c:=by rw [h1];exact (Pg.dS.1 hp).1
 have x5:Hid ((P.pg i).gap c=y.gap c):=by show _=_;rw [h1]
 have x4:Hid (∀ k,(P.pg i).take c k (fun _=>0)=y.take c k (fun _=>0)):=by intro k;rw [h1]
 have y3:Hid ((P.pg i).cls = -1\/(P.pg i).cls=c):=.inr (Pg.dS.1 hp).1;have y4:=aA h1;clear hp hb h1;obtain ⟨cap,h0,hf,y8,_,_⟩:=h.facts;have h2:=aA h;clear h;have y6:=h2.out.n24;have a2:=h2.out.facts.choose_spec.2.2.2;have x3:Only [] w (w.alloc (.cells #[.int .i64 c] 3)):=(Only.refl _ _).alloc _;have h7:(w.alloc (.cells #[.int .i64 c] 3)).cell? ⟨w.heap.size,0,none⟩=some (.int .i64 c):=(Row.new w 3 [.int .i64 c]).cell 0 rfl;have h6:=aA (h2.out.only x3 (by simp) (by simp));go_in;go_wp2_with fail;refine (sO _ _ _ _ h6.out _).mono ?_;rintro e _ ⟨rfl,rfl⟩;rw [y7.out];go_wp2_with fail;refine (uJ _ b P.n cap P.pg y6 h6.out.pg w.heap.size c hc h7).mono ?_;rintro e w2 ⟨rfl,o2⟩;rw [y2.out];have h9:=aA (h6.out.only o2 (by simp) (by simp));have x6:=o2.cell h7 (by simp);obtain ⟨z5,z0,zf,x9,zp,zb⟩:=h9.out.facts;have h4:gK w2 b (i*25) y:=by rw [y4.out];exact h9.out.pg i hi
 have y9:=h4.used (k:=y.gap c) (by have:=hc.sz;omega);have O2:=aA (x3.trans o2 (by simp));have z3:Hid (bZ b (i*25) w2 w2):=bZ.refl _ _ _;have y1:w.heap.size≠b:=by omega
 have b0:b≠w.heap.size:=by omega
 clear o2 h7 h0 hf y8 x3;generalize x7:y.gap c=k at*;have HG:=aA x7;have h5:=hc.blk hg;have a3:=hc.sz;obtain ⟨m,hm⟩:∃ m,m=k*bsz c:=⟨_,rfl⟩;obtain ⟨z,hz⟩:∃ z,z=bsz c:=⟨_,rfl⟩;have HM:=aA hm;have HZ:=aA hz;have z1:(k:Int)*(z:Int)=(m:Int):=by rw [hm,hz];simp
 have a1:((k:Int)+1)*(z:Int)=(m:Int)+(z:Int):=by rw [Int.add_mul,Int.one_mul,z1]
 have x2:m+z<=16:=by have:=h5.1;rw [hm,hz];exact this
 have a8:z<=8:=by omega
 have z2:0<z:=by omega
 have z6:¬ 16=m:=by omega
 have z7:(m:Int)+(z:Int)<=16:=by omega
 have z8:(0:Int)<=m:=by omega
 have z9:(m:Int)<=(m:Int)+(z:Int):=by omega
 have a0:(0:Int)<=(m:Int)+(z:Int):=by omega
 have a4:IntKind.i64.wrap (m:Int)=m:=IntWalk.i64_in _ (by omega);have a5:IntKind.i64.wrap ((m:Int)+(z:Int))=(m:Int)+(z:Int):=IntWalk.i64_in _ (by omega);have a6:IntKind.i64.wrap ((k:Int)+1)=(k:Int)+1:=IntWalk.i64_in _ (by omega);have h3:∀ wx,Calls prog 208 #[.int .i64 c] wx (aO wx (.int .i64 (z:Int))):=fun wx=>by rw [HZ.out];exact sW wx c hc
 clear hm hz h5;clear x7;go_wp2_with fail;have h8:=zL w2 b (i*25) y h4 (by rw [d];exact hc) (by rw [d,HG.out];exact hg);rw [d,HG.out] at h8;refine h8.mono ?_;clear h8;rintro e w3 ⟨rfl,n3,rfl⟩;have x1:k<8:=by omega
 have zP:=aA ((h4.drewN n3).aBo x1 true);have zO:=aA ((z3.out.drewN n3).aPv x1 (.bool true));have zc:((w2.drewN n3).setCell ⟨b,i*25+1+k,none⟩ (.bool true)).cell? ⟨w.heap.size,0,none⟩=some (.int .i64 c):=(((bZ.refl b (i*25) w2).drewN n3).aPv x1 (.bool true)).only.cell x6 (by simpa using y1);have y0:∀ x,((w2.drewN n3).setCell ⟨b,i*25+1+k,none⟩ (.bool true)).frozen? ⟨b,x,none⟩=false:=fun x=>by rw [World.frozen?_setCell];exact x9 x
 go_wp2_with fail;generalize (w2.drewN n3).setCell ⟨b,i*25+1+k,none⟩ (.bool true)=w4 at*;clear h4 y9 z0 x9 x6;go_still_tail 13,(by kernel_rfl)
 repeat (first|still_step|still_call (xC (h3 _)))
 refine wpStill_nil ?_;have ez:((m:Int)+(z:Int)).toNat - m=z:=by omega
 rw [ez];change wpList _ _ _ _ _ w4.drew;have y5:∀ wx,(zeroValue 3).run prog wx=.ok (.int .i64 0) wx:=fun wx=>by kernel_rfl
 refine jD rfl (.tmp 61) 23 3 rfl (.int .i64 0) Tryz.underlying23 y5 rfl rfl b (i*25+9+m) z (16 - m) rfl z2 ?c1 ?c2 ?c3
 case c1=>
  intro j hj;have:=zP.out.cell (k:=m+j) (by omega);rw [<-Nat.add_assoc] at this;show (w4.cell? _).isSome=true;rw [this];rfl
 case c2=>exact fun j hj=>y0 _
 have z4:Hid (gK (w4.drew.setCells b (i*25+9+m) ((List.range z).map fun _=>Value.int .i64 0)) b (i*25) { cls:=y.cls,used:=up y.used k true,cell:=fun j=>if m<=j/\j<m+z then 0 else y.cell j }):=(show gK w4.drew b (i*25) _ from zP.out).setCells m z x2 (fun _=>0);have x8:Hid (bZ b (i*25) w2 (w4.drew.setCells b (i*25+9+m) ((List.range z).map fun _=>Value.int .i64 0))):=(show bZ b (i*25) w2 w4.drew from zO.out.drewN 1).setCells m z x2 (fun _=>0);rw [nD];have a9:(w4.drew.setCells b (i*25+9+m) ((List.range z).map fun _=>Value.int .i64 0)).cell? ⟨w.heap.size,0,none⟩=some (.int .i64 c):=((show bZ b (i*25) w4 w4.drew from (bZ.refl _ _ _).drewN 1).setCells m z x2 (fun _=>0)).only.cell zc (by simpa using y1);generalize w4.drew.setCells b (i*25+9+m) ((List.range z).map fun _=>Value.int .i64 0)=w5 at*;clear zc y0 zP zO;have a7:IntKind.i64.wrap ((i:Int)*16)=(i:Int)*16:=IntWalk.i64_in _ (by omega);go_wp2_with fail;refine (h3 _).mono ?_;rintro e _ ⟨rfl,rfl⟩;go_wp2_with fail;refine hR.out _ _ ⟨?_,?_,?_⟩
 ·have e1:((16*i+(P.pg i).gap c*bsz c:Nat):Int)=(i:Int)*16+(m:Int):=by rw [x5.out,<-HM.out];omega
  rw [e1];rfl
 ·rw [x5.out];refine h9.out.turn hi ?_ x8.out (h2.out.ok.set ((h2.out.ok i hi).take hc y3.out hg _));rw [x4.out k];have e2:y.take c k (fun _=>0)={ cls:=y.cls,used:=up y.used k true,cell:=fun j=>if m<=j/\j<m+z then 0 else y.cell j }:=by
   unfold Pg.take;rw [d,HM.out,HZ.out]
  rw [e2];exact z4.out
 exact (O2.out.mono (by simp):Only [b] w w2).trans x8.out.only (by simp)
theorem iI (w:World) (p b:Nat) (P:Pl) (h:dP w p b P) (c:Int) (hc:IsC c) (hn:∀ j,j<P.n->(P.pg j).partly c=false) (i:Nat) (hi:i<P.n) (hp:(P.pg i).cls<0) (hb:∀ j,j<i->¬ (P.pg j).cls<0) :
  Calls prog 219 #[.pointer (some ⟨p,0,none⟩),.int .i64 c] w fun e w'=>
   e=.returned (.tuple #[.int .i64 ((16*i:Nat):Int),.int .i64 0])/\dP w' p b (P.set i ((P.pg i).take c 0 fun _=>0))/\Only [b] w w':=by
 refine aF fun R hR=>?_;have z9:Hid (aMv c=true):=wO.2 hc;have z3:Hid (idx (fun i=>(P.pg i).partly c) P.n = -1):=by
  show _=_;rw [rM (by rw [fP (f:=fun i=>(P.pg i).partly c) hn];omega)]
 have y0:Hid (idx (fun i=>decide ((P.pg i).cls<0)) P.n=(i:Int)):=by
  have e1:=kV (f:=fun i=>decide ((P.pg i).cls<0)) hi (by simpa using hp) (fun j hj=>by simpa using hb j hj);show _=_;rw [kT (by rw [e1];exact hi),e1]
 have h2:(P.pg i).cls = -1:=((h.ok i hi).neg).1 hp;obtain ⟨y,h6⟩:∃ x,x=({ P.pg i with cls:=c }:Pg):=⟨_,rfl⟩;have h8:y.gap c=0:=by
  rw [h6];exact kV (by have:=hc.sz;omega) (by show (!(P.pg i).used 0)=true;rw [(h.ok i hi).free h2];rfl) (fun j hj=>by omega)
 have hg:y.gap c<bpt c:=by have:=hc.sz;omega
 have h3:y.cls=c:=by rw [h6]
 have y2:=aA h8;have y1:Hid (∀ k,(P.pg i).take c k (fun _=>0)=y.take c k (fun _=>0)):=by intro k;rw [h6];rfl
 have z4:Hid ((P.pg i).cls = -1\/(P.pg i).cls=c):=.inl h2;have z5:=aA h6;clear hp hb h6 hn h8 h2;obtain ⟨cap,h0,hf,a0,_,_⟩:=h.facts;have h4:=aA h;clear h;have y4:=h4.out.n24;have b3:=h4.out.facts.choose_spec.2.2.2;have x7:Only [] w (w.alloc (.cells #[.int .i64 c] 3)):=(Only.refl _ _).alloc _;have x3:(w.alloc (.cells #[.int .i64 c] 3)).cell? ⟨w.heap.size,0,none⟩=some (.int .i64 c):=(Row.new w 3 [.int .i64 c]).cell 0 rfl;have h5:=aA (h4.out.only x7 (by simp) (by simp));go_in;go_wp2_with fail;refine (sO _ _ _ _ h5.out _).mono ?_;rintro e _ ⟨rfl,rfl⟩;rw [z9.out];go_wp2_with fail;refine (uJ _ b P.n cap P.pg y4 h5.out.pg w.heap.size c hc x3).mono ?_;rintro e w2 ⟨rfl,o2⟩;rw [z3.out];obtain ⟨z2,z0,zf,d,zp,zb⟩:=(h5.out.only o2 (by simp) (by simp)).facts;go_wp2_with fail;refine (aAM _ b P.n z2 P.pg y4 (h5.out.only o2 (by simp) (by simp)).pg).mono ?_;rintro e w3 ⟨rfl,o3⟩;rw [y0.out];clear z0 zf d zp zb;have h7:=aA ((h5.out.only o2 (by simp) (by simp)).only o3 (by simp) (by simp));have y6:=o3.cell (o2.cell x3 (by simp)) (by simp);obtain ⟨a6,z0,zf,d,zp,zb⟩:=h7.out.facts;have O2:=aA ((x7.trans o2 (by simp)).trans o3 (by simp));have y7:=(h7.out.pg i hi).cls;have x9:w.heap.size≠b:=by omega
 have c5:b≠w.heap.size:=by omega
 have a5:p≠b:=h7.out.ne;clear o2 o3 x3 h0 hf a0 x7;have x1:gK ((w3.setCell ⟨b,i*25,none⟩ (.int .i64 c)).drew) b (i*25) y:=by rw [z5.out];exact (h7.out.pg i hi).aJc c |>.drewN 1
 have x8:Hid (bZ b (i*25) w3 ((w3.setCell ⟨b,i*25,none⟩ (.int .i64 c)).drew)):=((bZ.refl _ _ _).set 0 (by omega) _).drewN 1;have a1:=x1.used (k:=y.gap c) (by have:=hc.sz;omega);have y5:=x8.out.only.cell y6 (by simpa using x9);have y8:=x8.out.only.cell z0 (by simpa using a5);have y3:∀ x,((w3.setCell ⟨b,i*25,none⟩ (.int .i64 c)).drew).frozen? ⟨b,x,none⟩=false:=fun x=>by rw [show ∀ (wx:World) a,wx.drew.frozen? a=wx.frozen? a from fun _ _=>rfl,World.frozen?_setCell];exact d x
 go_wp2_with fail;go_still_tail 8,(by kernel_rfl);change wpList _ _ _ _ _ w3.drew;have z7:w3.drew.frozen? ⟨b,i*25,none⟩=false:=d _;have z8:w3.drew.cell? ⟨b,i*25,none⟩=some (.int .i64 (P.pg i).cls):=y7;refine wpList_plain rfl fun K hK=>?_;unfold Oper.wp;go_simp;refine hK _ _ ?_;clear hK K;refine wpList_nil ?_;generalize (w3.setCell ⟨b,i*25,none⟩ (.int .i64 c)).drew=w2 at*;clear y6 z0 d y7 z8 z7;have z0:=y8;have d:=y3;clear y8 y3;generalize h8:y.gap c=k at*;have HG:=aA h8;have x2:=hc.blk hg;have b4:=hc.sz;obtain ⟨m,hm⟩:∃ m,m=k*bsz c:=⟨_,rfl⟩;obtain ⟨z,hz⟩:∃ z,z=bsz c:=⟨_,rfl⟩;have HM:=aA hm;have HZ:=aA hz;have a2:(k:Int)*(z:Int)=(m:Int):=by rw [hm,hz];simp
 have b2:((k:Int)+1)*(z:Int)=(m:Int)+(z:Int):=by rw [Int.add_mul,Int.one_mul,a2]
 have x6:m+z<=16:=by have:=x2.1;rw [hm,hz];exact this
 have b9:z<=8:=by omega
 have a3:0<z:=by omega
 have a7:¬ 16=m:=by omega
 have a8:(m:Int)+(z:Int)<=16:=by omega
 have a9:(0:Int)<=m:=by omega
 have b0:(m:Int)<=(m:Int)+(z:Int):=by omega
 have b1:(0:Int)<=(m:Int)+(z:Int):=by omega
 have b5:IntKind.i64.wrap (m:Int)=m:=IntWalk.i64_in _ (by omega);have b6:IntKind.i64.wrap ((m:Int)+(z:Int))=(m:Int)+(z:Int):=IntWalk.i64_in _ (by omega);have b7:IntKind.i64.wrap ((k:Int)+1)=(k:Int)+1:=IntWalk.i64_in _ (by omega);have h9:∀ wx,Calls prog 208 #[.int .i64 c] wx (aO wx (.int .i64 (z:Int))):=fun wx=>by rw [HZ.out];exact sW wx c hc
 clear hm hz x2;clear h8;go_wp2_with fail;have x4:=zL w2 b (i*25) y x1 (by rw [h3];exact hc) (by rw [h3,HG.out];exact hg);rw [h3,HG.out] at x4;refine x4.mono ?_;clear x4;rintro e c0 ⟨rfl,n3,rfl⟩;have x5:k<8:=by omega
 have zP:=aA ((x1.drewN n3).aBo x5 true);have zO:=aA ((x8.out.drewN n3).aPv x5 (.bool true));have zc:((w2.drewN n3).setCell ⟨b,i*25+1+k,none⟩ (.bool true)).cell? ⟨w.heap.size,0,none⟩=some (.int .i64 c):=(((bZ.refl b (i*25) w2).drewN n3).aPv x5 (.bool true)).only.cell y5 (by simpa using x9);have z1:∀ x,((w2.drewN n3).setCell ⟨b,i*25+1+k,none⟩ (.bool true)).frozen? ⟨b,x,none⟩=false:=fun x=>by rw [World.frozen?_setCell];exact d x
 go_wp2_with fail;generalize (w2.drewN n3).setCell ⟨b,i*25+1+k,none⟩ (.bool true)=w4 at*;clear x1 a1 z0 d y5;go_still_tail 13,(by kernel_rfl)
 repeat (first|still_step|still_call (xC (h9 _)))
 refine wpStill_nil ?_;have ez:((m:Int)+(z:Int)).toNat - m=z:=by omega
 rw [ez];change wpList _ _ _ _ _ w4.drew;have z6:∀ wx,(zeroValue 3).run prog wx=.ok (.int .i64 0) wx:=fun wx=>by kernel_rfl
 refine jD rfl (.tmp 61) 23 3 rfl (.int .i64 0) Tryz.underlying23 z6 rfl rfl b (i*25+9+m) z (16 - m) rfl a3 ?c1 ?c2 ?c3
 case c1=>
  intro j hj;have:=zP.out.cell (k:=m+j) (by omega);rw [<-Nat.add_assoc] at this;show (w4.cell? _).isSome=true;rw [this];rfl
 case c2=>exact fun j hj=>z1 _
 have a4:Hid (gK (w4.drew.setCells b (i*25+9+m) ((List.range z).map fun _=>Value.int .i64 0)) b (i*25) { cls:=y.cls,used:=up y.used k true,cell:=fun j=>if m<=j/\j<m+z then 0 else y.cell j }):=(show gK w4.drew b (i*25) _ from zP.out).setCells m z x6 (fun _=>0);have y9:Hid (bZ b (i*25) w3 (w4.drew.setCells b (i*25+9+m) ((List.range z).map fun _=>Value.int .i64 0))):=(show bZ b (i*25) w3 w4.drew from zO.out.drewN 1).setCells m z x6 (fun _=>0);rw [nD];have c4:(w4.drew.setCells b (i*25+9+m) ((List.range z).map fun _=>Value.int .i64 0)).cell? ⟨w.heap.size,0,none⟩=some (.int .i64 c):=((show bZ b (i*25) w4 w4.drew from (bZ.refl _ _ _).drewN 1).setCells m z x6 (fun _=>0)).only.cell zc (by simpa using x9);generalize w4.drew.setCells b (i*25+9+m) ((List.range z).map fun _=>Value.int .i64 0)=w5 at*;clear zc z1 zP zO;have b8:IntKind.i64.wrap ((i:Int)*16)=(i:Int)*16:=IntWalk.i64_in _ (by omega);go_wp2_with fail;refine (h9 _).mono ?_;rintro e _ ⟨rfl,rfl⟩;go_wp2_with fail;refine hR.out _ _ ⟨?_,?_,?_⟩
 ·have e1:((16*i:Nat):Int)=(i:Int)*16+(m:Int):=by have h1:=HM.out;rw [y2.out,Nat.zero_mul] at h1;omega
  rw [e1];rfl
 ·rw [<-y2.out];refine h7.out.turn hi ?_ y9.out (h4.out.ok.set ((h4.out.ok i hi).take hc z4.out hg _));rw [y1.out k];have e2:y.take c k (fun _=>0)={ cls:=y.cls,used:=up y.used k true,cell:=fun j=>if m<=j/\j<m+z then 0 else y.cell j }:=by
   unfold Pg.take;rw [h3,HM.out,HZ.out]
  rw [e2];exact a4.out
 exact (O2.out.mono (by simp):Only [b] w w3).trans y9.out.only (by simp)
theorem fU (w:World) (p b:Nat) (P:Pl) (h:dP w p b P) (c:Int) (hc:IsC c) (hn:∀ j,j<P.n->(P.pg j).partly c=false) (hp:∀ j,j<P.n->¬ (P.pg j).cls<0) :
  Calls prog 219 #[.pointer (some ⟨p,0,none⟩),.int .i64 c] w fun e w'=>
   e=.returned (.tuple #[.int .i64 0,.int .i64 14])/\dP w' p b P/\Only [b] w w':=by
 refine aF fun R hR=>?_;have h6:Hid (aMv c=true):=wO.2 hc;have h4:Hid (idx (fun i=>(P.pg i).partly c) P.n = -1):=by
  show _=_;rw [rM (by rw [fP (f:=fun i=>(P.pg i).partly c) hn];omega)]
 have d:Hid (idx (fun i=>decide ((P.pg i).cls<0)) P.n = -1):=by
  show _=_;rw [rM (by rw [fP (f:=fun i=>decide ((P.pg i).cls<0)) (fun j hj=>by simpa using hp j hj)];omega)]
 clear hp hn;obtain ⟨cap,h0,hf,h7,_,_⟩:=h.facts;have z:=aA h;clear h;have h1:=z.out.n24;have h8:=z.out.facts.choose_spec.2.2.2;have h2:Only [] w (w.alloc (.cells #[.int .i64 c] 3)):=(Only.refl _ _).alloc _;have h5:(w.alloc (.cells #[.int .i64 c] 3)).cell? ⟨w.heap.size,0,none⟩=some (.int .i64 c):=(Row.new w 3 [.int .i64 c]).cell 0 rfl;have y:=aA (z.out.only h2 (by simp) (by simp));go_in;go_wp2_with fail;refine (sO _ _ _ _ y.out _).mono ?_;rintro e _ ⟨rfl,rfl⟩;rw [h6.out];go_wp2_with fail;refine (uJ _ b P.n cap P.pg h1 y.out.pg w.heap.size c hc h5).mono ?_;rintro e w2 ⟨rfl,o2⟩;rw [h4.out];obtain ⟨h3,z0,zf,h9,zp,zb⟩:=(y.out.only o2 (by simp) (by simp)).facts;go_wp2_with fail;refine (aAM _ b P.n h3 P.pg h1 (y.out.only o2 (by simp) (by simp)).pg).mono ?_;rintro e w3 ⟨rfl,o3⟩;rw [d.out];go_wp2;exact hR.out _ _ ⟨rfl,(y.out.only o2 (by simp) (by simp)).only o3 (by simp) (by simp),((h2.trans o2 (by simp)).trans o3 (by simp)).mono (by simp)⟩
theorem kE (w:World) (p b:Nat) (P:Pl) (h:dP w p b P) (c:Int) (hc:c<0\/2<c) :
  Calls prog 219 #[.pointer (some ⟨p,0,none⟩),.int .i64 c] w fun e w'=>
   e=.returned (.tuple #[.int .i64 0,.int .i64 1])/\dP w' p b P/\Only [b] w w':=by
 refine aF fun R hR=>?_;have d:Hid (aMv c=false):=by
  cases hq:aMv c with
  | false=>rfl
  | true=>have:=wO.1 hq;unfold IsC at this;omega
 have z:Only [] w (w.alloc (.cells #[.int .i64 c] 3)):=(Only.refl _ _).alloc _;have y:=aA (h.only z (by simp) (by simp));go_in;go_wp2_with fail;refine (sO _ _ _ _ y.out _).mono ?_;rintro e _ ⟨rfl,rfl⟩;rw [d.out];go_wp2;exact hR.out _ _ ⟨rfl,y.out,z.mono (by simp)⟩
theorem aDQ (w:World) (p b:Nat) (P:Pl) (h:dP w p b P) (c:Int) :
  Calls prog 219 #[.pointer (some ⟨p,0,none⟩),.int .i64 c] w fun e w'=>
   e=.returned (.tuple #[.int .i64 (P.alloc c).1,.int .i64 (P.alloc c).2.1])/\dP w' p b (P.alloc c).2.2/\Only [b] w w':=by
 rcases P.gW c with y|⟨y,⟨i,z,d,hb⟩|⟨hn,⟨i,z,d,hb⟩|hf⟩⟩
 ·rw [Pl.kE y];exact kE w p b P h c y
 ·rw [Pl.fQ y z d hb];exact fQ w p b P h c y i z d hb
 ·rw [Pl.iI y hn z d hb];exact iI w p b P h c y hn i z d hb
 rw [Pl.fU y hn hf];exact fU w p b P h c y hn hf
set_option maxHeartbeats 400000
theorem aGt (w:World) (p b:Nat) (P:Pl) (h:dP w p b P) (A:Nat) (hA:A<16*P.n) (e:(P.pg (A / 16)).cls<0) :
  Calls prog 258 #[.pointer (some ⟨p,0,none⟩),.int .i64 A] w (aO w (.tuple #[.pointer none,.int .i64 0,.bool false])):=by
 refine aF fun R d=>?_;obtain ⟨cap,h0,hf,_⟩:=h.facts;have h1:=h.n24;obtain ⟨i,y⟩:∃ i,i=A / 16:=⟨_,rfl⟩;rw [<-y] at e;have z:i<P.n:=by omega
 have hq:(A:Int) / 16=(i:Int):=by omega
 have h2:=(h.pg i z).cls;have HI:=aA y;clear h y;go_in;go_wp2_with fail;go_ret3;exact d.out _ _ ⟨rfl,rfl⟩
theorem aGs (w:World) (p b:Nat) (P:Pl) (h:dP w p b P) (A:Nat) (hA:A<16*P.n) (hc:¬ (P.pg (A / 16)).cls<0) :
  Calls prog 258 #[.pointer (some ⟨p,0,none⟩),.int .i64 A] w fun e w'=>
   e=.returned (.tuple #[.pointer (some ⟨b,A / 16*25,none⟩),.int .i64 ((A % 16 / bsz (P.pg (A / 16)).cls:Nat):Int),.bool ((P.pg (A / 16)).used (A % 16 / bsz (P.pg (A / 16)).cls))])/\∃ n,w'=w.drewN n:=by
 refine aF fun R hR=>?_;obtain ⟨cap,h0,hf,_⟩:=h.facts;have h7:=h.n24;have h3:=aA hR;obtain ⟨i,hi⟩:∃ i,i=A / 16:=⟨_,rfl⟩;obtain ⟨j,hj⟩:∃ j,j=A % 16:=⟨_,rfl⟩;rw [<-hi,<-hj] at hR;rw [<-hi] at hc;have h2:i<P.n:=by omega
 have h4:j<16:=by omega
 have hq:(A:Int) / 16=(i:Int):=by omega
 have hr:(A:Int) % 16=(j:Int):=by omega
 have y:=h.pg i h2;have h9:=y.cls;have hC:IsC (P.pg i).cls:=by
  rcases (h.ok i h2).cls with h1|h1
  ·omega
  exact h1
 obtain ⟨z,hz⟩:∃ z,z=bsz (P.pg i).cls:=⟨_,rfl⟩;obtain ⟨k,hk⟩:∃ k,k=j / z:=⟨_,rfl⟩;rw [<-hz,<-hk] at hR;have h5:k<8:=by have h1:=(hC.div h4).1;have:=hC.sz;rw [<-hz,<-hk] at h1;omega
 have x2:2<=z:=by have:=hC.sz;omega
 have x3:z<=8:=by have:=hC.sz;omega
 have hu:=y.used h5;have h6:(j:Int) / (z:Int)=(k:Int):=by rw [hk];simp
 have d:∀ wx,Calls prog 208 #[.int .i64 (P.pg i).cls] wx (aO wx (.int .i64 (z:Int))):=fun wx=>by rw [hz];exact sW wx _ hC
 have x1:((z:Int) == 0)=false:=by simp;omega
 have h8:decide ((P.pg i).cls<0)=false:=by simpa using hc
 clear h hi hj hz hk y h3;go_in;go_wp2_with fail;refine (d _).mono ?_;rintro e _ ⟨rfl,rfl⟩;go_wp2_with fail;go_quiet (fail);go_wp2_with fail;go_ret3;exact hR.out _ _ ⟨rfl,_,rfl⟩
structure Split (P:Pl) (A i j k z m:Nat):Prop where
 hi:i=A / 16
 hj:j=A % 16
 hz:z=bsz (P.pg i).cls
 hk:k=j / z
 hm:m=k*z
 hin:i<P.n
 aAN:j<16
 hC:IsC (P.pg i).cls
 hk8:k<8
 hz2:2<=z
 hz8:z<=8
 aPA:m+z<=16
 hkp:k<bpt (P.pg i).cls
theorem aFv {P:Pl} (e:P.ok) {A:Nat} (hA:A<16*P.n) (hc:¬ (P.pg (A / 16)).cls<0):∃ i j k z m,Split P A i j k z m:=by
 have y:A / 16<P.n:=by omega
 have d:IsC (P.pg (A / 16)).cls:=by
  rcases (e _ y).cls with h1|h1
  ·omega
  exact h1
 have h0:=d.sz;have hd:=d.div (j:=A % 16) (by omega);exact ⟨_,_,_,_,_,rfl,rfl,rfl,rfl,rfl,y,by omega,d,by omega,by omega,by omega,(d.blk hd.1).1,hd.1⟩
theorem aFk (w:World) (p b:Nat) (P:Pl) (h:dP w p b P) {A i j k z m:Nat} (hA:A<16*P.n) (s:Split P A i j k z m) :
  Calls prog 258 #[.pointer (some ⟨p,0,none⟩),.int .i64 A] w fun e w'=>
   e=.returned (.tuple #[.pointer (some ⟨b,i*25,none⟩),.int .i64 k,.bool ((P.pg i).used k)])/\∃ n,w'=w.drewN n:=by
 have y:=s.hi;have hc:¬ (P.pg (A / 16)).cls<0:=by rw [<-y];rcases s.hC with h2|h2|h2<;>omega
 have d:=aGs w p b P h A hA hc;rw [<-y,<-s.hj,<-s.hz,<-s.hk] at d;exact d
theorem aAd (w:World) (p b:Nat) (P:Pl) (h:dP w p b P) (a:Int) :
  Calls prog 234 #[.pointer (some ⟨p,0,none⟩),.int .i64 a] w fun e w'=>
   e=.returned (.tuple #[.int .i64 (P.begin a).1,.int .i64 (P.begin a).2])/\∃ n,w'=w.drewN n:=by
 refine aF fun R hR=>?_
 cases y:P.addr a with
 | false=>
  rw [Pl.nV y] at hR;go_in;go_wp2_with fail;refine (qI _ _ _ _ h _).mono ?_;rintro e _ ⟨rfl,rfl⟩;rw [y];go_wp2;exact hR.out _ _ ⟨rfl,iU _⟩
 | true=>
  obtain ⟨A,rfl⟩:∃ A:Nat,a=A:=⟨a.toNat,by have:=Pl.iJ.1 y;omega⟩;have hA:A<16*P.n:=by have:=Pl.iJ.1 y;omega
  have h5:=h.n24
  by_cases hc:(P.pg (A / 16)).cls<0
  ·have hb:=Pl.jQ y (by simpa using hc);rw [hb] at hR;clear hb;have HA:=aA y;have d:=qI w _ _ _ h (A:Int);rw [y] at d;clear y;go_in;go_wp2_with fail;refine d.mono ?_;rintro e _ ⟨rfl,rfl⟩;go_wp2_with fail;refine (aGt _ _ _ _ h A hA hc).mono ?_;rintro e _ ⟨rfl,rfl⟩;go_wp2;exact hR.out _ _ ⟨rfl,iU _⟩
  obtain ⟨i,j,k,z,m,s⟩:=aFv h.ok hA hc;have d:=qI w _ _ _ h (A:Int);rw [y] at d;have hq:(A:Int) / 16=(i:Int):=by have:=s.hi;omega
  have h0:=aFk w p b P h hA s;have h4:i<24:=by have:=s.hin;omega
  have h3:m<=16:=by have:=s.aPA;omega
  have h6:(k:Int)*(z:Int)=(m:Int):=by rw [s.hm];simp
  have h7:=(h.pg i s.hin).cls;have h2:∀ wx,Calls prog 208 #[.int .i64 (P.pg i).cls] wx (aO wx (.int .i64 (z:Int))):=fun wx=>by rw [s.hz];exact sW wx _ s.hC
  cases hu:(P.pg i).used k with
  | false=>
   have hb:=Pl.sQ y (by simpa using hc) (by have h1:=hu;rw [s.hk,s.hz,s.hj,s.hi] at h1;simpa using h1);rw [hb] at hR;rw [hu] at h0;clear hb y hc;go_in;go_wp2_with fail;refine d.mono ?_;rintro e _ ⟨rfl,rfl⟩;go_wp2_with fail;refine h0.mono ?_;rintro e _ ⟨rfl,n1,rfl⟩;go_wp2;exact hR.out _ _ ⟨rfl,_,rfl⟩
  | true=>
   have hb:=Pl.kD y (by simpa using hc) (by have h1:=hu;rw [s.hk,s.hz,s.hj,s.hi] at h1;simpa using h1);have e1:P.begin (A:Int)=(((i*16+m:Nat):Int),0):=by rw [hb,s.hm,s.hk,s.hz,s.hj,s.hi];simp
   rw [e1] at hR;rw [hu] at h0;have h8:IntKind.i64.wrap ((i:Int)*16)=(i:Int)*16:=IntWalk.i64_in _ (by omega);clear hb y hc e1 hu;go_in;go_wp2_with fail;refine d.mono ?_;rintro e _ ⟨rfl,rfl⟩;go_wp2_with fail;refine h0.mono ?_;rintro e _ ⟨rfl,n1,rfl⟩;go_wp2_with fail;refine (h2 _).mono ?_;rintro e _ ⟨rfl,rfl⟩;go_wp2;exact hR.out _ _ ⟨rfl,_,rfl⟩
theorem qF {P:Pl} (y:P.ok) {a:Int} (h:(P.begin a).2=0):∃ A i j k z m:Nat,a=(A:Int)/\A<16*P.n/\Split P A i j k z m/\(P.pg i).used k=true/\(P.begin a).1=((i*16+m:Nat):Int):=by
 obtain ⟨e,h2,h3,h4,h5,h6,h7⟩:=Pl.mD h;have d:a.toNat<16*P.n:=by have:=Pl.iJ.1 e;omega
 obtain ⟨i,j,k,z,m,s⟩:=aFv y d h2;refine ⟨a.toNat,i,j,k,z,m,h7,d,s,?_,?_⟩
 ·rw [s.hk,s.hz,s.hj,s.hi];exact h3
 rw [h4,s.hm,s.hk,s.hz,s.hj,s.hi]
theorem aGh (w:World) (p b:Nat) (P:Pl) (h:dP w p b P) (a:Int) :
  Calls prog 195 #[.pointer (some ⟨p,0,none⟩),.int .i64 a] w fun e w'=>
   e=.returned (.tuple #[.int .i64 (P.cell a).1,.int .i64 (P.cell a).2])/\∃ n,w'=w.drewN n:=by
 refine aF fun R hR=>?_;have y:=aAd w p b P h a
 by_cases d:(P.begin a).2=0
 ·obtain ⟨A,i,j,k,z,m,rfl,hA,s,hu,h2⟩:=qF h.ok d;have e1:P.cell (A:Int)=((P.pg i).cell j,0):=by unfold Pl.cell;rw [if_pos d,s.hj,s.hi];rfl
  rw [e1] at hR;rw [d] at y;obtain ⟨cap,z0,zf,h7,_⟩:=h.facts;have hq:(A:Int) / 16=(i:Int):=by have:=s.hi;omega
  have hr:(A:Int) % 16=(j:Int):=by have:=s.hj;omega
  have h5:i<24:=by have:=s.hin;have:=h.n24;omega
  have h3:=s.hin;have h1:=s.aAN;have h4:=(h.pg i h3).cell h1;generalize (P.begin (A:Int)).1=B at y;clear e1 h2 d h s hu;go_in;go_wp2_with fail;refine y.mono ?_;rintro e _ ⟨rfl,n1,rfl⟩;go_wp2;exact hR.out _ _ ⟨rfl,_,rfl⟩
 have e1:P.cell a=(0,(P.begin a).2):=by unfold Pl.cell;rw [if_neg d]
 rw [e1] at hR;have h6:((P.begin a).2 != 0)=true:=by rw [bne_iff_ne];exact d
 clear d e1;go_in;go_wp2_with fail;refine y.mono ?_;rintro e _ ⟨rfl,n1,rfl⟩;go_wp2;exact hR.out _ _ ⟨rfl,_,rfl⟩
theorem iP (w:World) (p b:Nat) (P:Pl) (h:dP w p b P) (a n:Int) :
  Calls prog 199 #[.pointer (some ⟨p,0,none⟩),.int .i64 a,.int .i64 n] w fun e w'=>
   e=.returned (.int .i64 (P.setCell a n).1)/\dP w' p b (P.setCell a n).2/\Only [b] w w':=by
 refine aF fun R hR=>?_;have d:=aAd w p b P h a
 by_cases h0:(P.begin a).2=0
 ·obtain ⟨A,i,j,k,z,m,rfl,hA,s,hu,h6⟩:=qF h.ok h0;have e1:P.setCell (A:Int) n=(0,P.set i { P.pg i with cell:=up (P.pg i).cell j n }):=by unfold Pl.setCell;rw [if_pos h0,s.hj,s.hi];rfl
  rw [e1] at hR;rw [h0] at d;obtain ⟨cap,z0,zf,x1,_⟩:=h.facts;have hq:(A:Int) / 16=(i:Int):=by have:=s.hi;omega
  have hr:(A:Int) % 16=(j:Int):=by have:=s.hj;omega
  have h8:i<24:=by have:=s.hin;have:=h.n24;omega
  have h1:=s.hin;have h3:=s.aAN;have h7:=(h.pg i h1).cell h3;have h2:∀ y,dP ((w.drewN y).setCell ⟨b,i*25+9+j,none⟩ (.int .i64 n)) p b (P.set i { P.pg i with cell:=up (P.pg i).cell j n }):=fun y=>
   (h.drewN y).turn h1 ((((h.pg i h1).drewN y).setCell h3 n)) (by rw [Nat.add_assoc];exact (bZ.refl _ _ _).set _ (by omega) _) (h.ok.set ((h.ok i h1).put _))
  have h4:∀ y,Only [b] w ((w.drewN y).setCell ⟨b,i*25+9+j,none⟩ (.int .i64 n)):=fun y=>((Only.refl [b] w).drewN y).set (by simp) _;have HF:=aA h2;have h5:=aA h4;generalize (P.begin (A:Int)).1=B at d;clear e1 h6 h0 h s hu h2 h4;go_in;go_wp2_with fail;refine d.mono ?_;rintro e _ ⟨rfl,y,rfl⟩;go_wp2;exact hR.out _ _ ⟨rfl,HF.out _,h5.out _⟩
 have e1:P.setCell a n=((P.begin a).2,P):=by unfold Pl.setCell;rw [if_neg h0]
 rw [e1] at hR;have h9:((P.begin a).2 == 0)=false:=by rw [beq_eq_false_iff_ne];exact h0
 clear h0 e1;go_in;go_wp2_with fail;refine d.mono ?_;rintro e _ ⟨rfl,y,rfl⟩;go_wp2;exact hR.out _ _ ⟨rfl,h.drewN _,(Only.refl _ _).drewN _⟩
theorem aMS (w:World) (p b:Nat) (P:Pl) (h:dP w p b P) (a:Int) :
  Calls prog 301 #[.pointer (some ⟨p,0,none⟩),.int .i64 a] w fun e w'=>
   e=.returned (.int .i64 (P.free a).1)/\dP w' p b (P.free a).2/\Only [b] w w':=by
 refine aF fun R hR=>?_;have y:=aAd w p b P h a
 by_cases d:(P.begin a).2=0
 ·rw [d] at y
  by_cases h1:(P.begin a).1=a
  ·obtain ⟨A,i,j,k,z,m,rfl,hA,s,hu,h4⟩:=qF h.ok d;have e1:P.free (A:Int)=(0,P.set i ((P.pg i).release k)):=by
    unfold Pl.free;rw [if_pos d,if_pos h1,s.hk,s.hz,s.hj,s.hi];simp
   rw [e1] at hR;rw [h1] at y;have h7:=fun n1=>aFk (w.drewN n1) p b P (h.drewN n1) hA s;have hrel:=fun n1=>aAB (w.drewN n1) b (i*25) (P.pg i) ((h.pg i s.hin).drewN n1) (fun x=>h.facts.choose_spec.2.2.1 x) k s.hk8;have h3:=s.hin;have H:=aA h;have h6:((P.pg i).release k).ok:=(h.ok i h3).release (by rcases s.hC with h2|h2|h2<;>omega) k
   clear e1 h4 d h s h1;go_in;go_wp2_with fail;refine y.mono ?_;rintro e _ ⟨rfl,n1,rfl⟩;go_wp2_with fail;refine (h7 n1).mono ?_;rintro e _ ⟨rfl,n2,rfl⟩;go_wp2_with fail;refine (hrel (n1+n2)).mono ?_;rintro e w3 ⟨rfl,g3,o3⟩;go_wp2;exact hR.out _ _ ⟨rfl,(H.out.drewN _).turn h3 g3 o3 (H.out.ok.set h6),((Only.refl [b] w).drewN _).trans o3.only (by simp)⟩
  have e1:P.free a=(3,P):=by unfold Pl.free;rw [if_pos d,if_neg h1]
  rw [e1] at hR;have h5:((P.begin a).1 != a)=true:=by rw [bne_iff_ne];exact h1
  clear d e1 h1;go_in;go_wp2_with fail;refine y.mono ?_;rintro e _ ⟨rfl,n1,rfl⟩;go_wp2;exact hR.out _ _ ⟨rfl,h.drewN _,(Only.refl _ _).drewN _⟩
 have e1:P.free a=((P.begin a).2,P):=by unfold Pl.free;rw [if_neg d]
 rw [e1] at hR;have h5:((P.begin a).2 == 0)=false:=by rw [beq_eq_false_iff_ne];exact d
 have h8:((P.begin a).2 != 0)=true:=by rw [bne_iff_ne];exact d
 clear d e1;go_in;go_wp2_with fail;refine y.mono ?_;rintro e _ ⟨rfl,n1,rfl⟩;go_wp2;exact hR.out _ _ ⟨rfl,h.drewN _,(Only.refl _ _).drewN _⟩
end Go.Proofs.YthflghdaejbdkaaGreat
