/- Lemmas of this claim. -/
import Derived.Test.YthflghdaejbdkaaGreatXcTbGood
import Derived.Test.YthflghdaejbdkaaGreatXcMkG
import Derived.Laws.ResultCell
namespace Go.Proofs.YthflghdaejbdkaaGreat
open _root_.Go.Proofs.Tryz (prog)
open Go.RowKit Go.Maps
set_option maxHeartbeats 3200000
set_option maxRecDepth 100000
set_option linter.unusedVariables false
def enC (e:En):List Value:=[.int .i64 e.kind,.int .i64 e.tgt,.int .i64 e.tag]
def dH (l:List En):List Value:=l.flatMap enC
theorem lY (l:List En):(dH l).length=l.length*3:=by
 unfold dH
 induction l with
 | nil=>rfl
 | cons e l y=>rw [List.flatMap_cons,List.length_append,y];simp [enC];omega
theorem zQ (l y:List En):dH (l ++ y)=dH l ++ dH y:=by unfold dH;rw [List.flatMap_append]
theorem uT (l:List En) {i j:Nat} (z:i<l.length) (hj:j<3):(dH l)[i*3+j]?=(enC (eAt l i))[j]?:=by
 induction l generalizing i with
 | nil=>simp at z
 | cons e l ih=>
  unfold dH;rw [List.flatMap_cons]
  cases i with
  | zero=>
   rw [Nat.zero_mul,Nat.zero_add,List.getElem?_append_left (by simp [enC];omega)];rfl
  | succ i=>
   rw [List.getElem?_append_right (by simp [enC];omega)];have d:(i+1)*3+j - (enC e).length=i*3+j:=by simp [enC];omega
   rw [d];have y:=ih (i:=i) (by simp at z;omega);unfold dH at y;rw [y];rfl
def iO (w:World) (T base:Nat) (v:Value) (l:List En):Prop:=w.ownsRow base T 3 v l.length (dH l)
section
variable {w w':World} {T base:Nat} {v:Value} {l:List En}
theorem iO.own (h:iO w T base v l):∀ k,v.ownBlock=some k->base<=k/\k<w.heap.size:=World.ownsRow.lt h
theorem iO.dA {S:Nat->Prop} (h:iO w T base v l) (hg:aI S w w') (hF:∀ k,v.ownBlock=some k->¬ S k):iO w' T base v l:=by
 refine ⟨h.1,?_⟩;rcases h.2 with e|⟨g,cap,y,d,hb,z,r⟩
 ·exact .inl e
 exact .inr ⟨g,cap,y,d,hb,by rw [hg.block g (Array.getElem?_eq_some_iff.1 z).1 (hF g (by rw [d];rfl))];exact z,r⟩
theorem iO.only {F:List Nat} (h:iO w T base v l) (z:Only F w w') (y:∀ k,v.ownBlock=some k->k∉F):iO w' T base v l:=h.dA (z.toP (S:=fun k=>k∈F) (fun x hx=>.inl hx)) y
theorem iO.nil (w:World) (T base:Nat):iO w T base (.slice none 0 0) []:=World.ownsRow_nil _ _ _ _
theorem iO.len (h:iO w T base v l):∃ a cap,v=.slice a l.length cap:=by
 rcases h.2 with ⟨y,z⟩|⟨g,cap,e,d,_⟩
 ·exact ⟨none,0,by rw [y,z]⟩
 exact ⟨_,cap,d⟩
end
section
variable {w:World} {T base:Nat} {v:Value} {l:List En}
theorem iO.low (h:iO w T base v l) {b:Nat} (hb:b<=base):iO w T b v l:=World.ownsRow.mono h hb
theorem iO.form (h:iO w T base v l) (hl:l≠[]):∃ g cap,v=.slice (some ⟨g,0,none⟩) l.length cap/\base<=g/\g<w.heap.size/\l.length<=cap:=by
 rcases h.2 with ⟨h1,y⟩|⟨g,cap,h0,hv,d,e,z,_⟩
 ·exact absurd (List.eq_nil_of_length_eq_zero y) hl
 exact ⟨g,cap,hv,d,(Array.getElem?_eq_some_iff.1 e).1,z⟩
theorem iO.at (h:iO w T base v l) {i:Nat} (y:i<l.length):∃ g cap,v=.slice (some ⟨g,0,none⟩) l.length cap/\g<w.heap.size/\l.length<=cap/\w.cell? ⟨g,i*3,none⟩=some (.int .i64 (eAt l i).kind)/\w.cell? ⟨g,i*3+1,none⟩=some (.int .i64 (eAt l i).tgt)/\w.cell? ⟨g,i*3+2,none⟩=some (.int .i64 (eAt l i).tag)/\∀ k,w.frozen? ⟨g,k,none⟩=false:=by
 obtain ⟨g,cap,rfl,hb,d,z⟩:=h.form (fun e=>by rw [e] at y;simp at y);refine ⟨g,cap,rfl,d,z,?_,?_,?_,fun k=>World.ownsRow.frozenAt h k⟩
 ·rw [World.ownsRow.cellAt h _ (by omega)];exact uT l (j:=0) y (by omega)
 ·rw [World.ownsRow.cellAt h _ (by omega)];exact uT l (j:=1) y (by omega)
 rw [World.ownsRow.cellAt h _ (by omega)];exact uT l (j:=2) y (by omega)
theorem aEW (l:List En) {i:Nat} (y:i<l.length) (x:Int):(dH l).set (i*3+1) (.int .i64 x)=dH (l.set i ⟨(eAt l i).kind,x,(eAt l i).tag⟩):=by
 induction l generalizing i with
 | nil=>simp at y
 | cons e l d=>
  cases i with
  | zero=>rfl
  | succ i=>
   have z:=d (i:=i) (by simp at y;omega);rw [show (i+1)*3+1=(i*3+1)+1+1+1 by omega];show _ :: _ :: _ :: (dH l).set (i*3+1) _=_ :: _ :: _ :: dH (l.set i _);rw [z];rfl
theorem iO.put (h:iO w T base v l) {i:Nat} (z:i<l.length) (x:Int) {g cap n:Nat} (d:v=.slice (some ⟨g,0,none⟩) n cap):iO (w.setCell ⟨g,i*3+1,none⟩ (.int .i64 x)) T base v (l.set i ⟨(eAt l i).kind,x,(eAt l i).tag⟩):=by
 obtain ⟨g2,h0,y,_⟩:=h.form (fun e=>by rw [e] at z;simp at z);rw [d] at y;simp only [Value.slice.injEq,Option.some.injEq,Addr.mk.injEq,and_true] at y;obtain ⟨rfl,rfl,rfl⟩:=y;subst d;have h3:=(World.ownsRow.stored h (i*3+1) (.int .i64 x)).1;unfold iO;rw [List.length_set,<-aEW l z x];exact h3
end
theorem aBv {v:Value} {z:DataW Unit×List MemPlace} (h:plainElem (H:=Unit) prog 4 v=some z):∃ b,v=.bool b/\z=(.lit (.bool b),[]):=by
 unfold plainElem at h;rw [Tryz.underlying4] at h
 cases v<;>simp at h
 exact ⟨_,rfl,h.symm⟩
theorem aRt (w:World):(zeroValue 4).run prog w=.ok (.bool false) w:=by kernel_rfl
def iW (w:World) (y n:Nat) (f:Nat->Bool):Prop:=
 ∃ D:DataW Unit,w.ownsMap prog 3 (plainElem (H:=Unit) prog 4) y n D/\∀ k:Nat,k<n->D.atKey (.int .i64 (k:Int)) (.lit (.bool false))=.lit (.bool (f k))
theorem iW.only {w w':World} {z n:Nat} {f:Nat->Bool} {S:Nat->Prop} (h:iW w z n f) (hg:aI S w w') (hS:¬ S z):iW w' z n f:=by
 obtain ⟨D,e,hf⟩:=h;have d:=e.lt;obtain ⟨es,y,hb,r⟩:=e;exact ⟨D,⟨es,y,(hg.block z d hS).trans hb,r⟩,hf⟩
theorem iW.lt {w:World} {y n:Nat} {f:Nat->Bool} (h:iW w y n f):y<w.heap.size:=by obtain ⟨D,h,_⟩:=h;exact h.lt
theorem iW.made (w:World) (f:Nat->Bool):iW (w.alloc (.map #[] 0)) w.heap.size 0 f:=
 ⟨.map [],World.ownsMap_made _ _ _ _,fun k y=>by omega⟩
theorem iW.look {w:World} {z n:Nat} {f:Nat->Bool} (h:iW w z n f) {k:Nat} (hk:k<n) (hn:n<=1000000):(Instr.lookup 114 (.map (some z)) (.int .i64 (k:Int)) false).run prog w=.ok (.bool (f k)) w:=by
 obtain ⟨D,hD,hf⟩:=h;obtain ⟨v,ps,d,e⟩:=hD.lookup jI Tryz.underlying114 (aRt w) (plainElem_bool Tryz.underlying4 false) (aNF (dL (k:=(k:Int)) (by omega)));obtain ⟨c,rfl,y⟩:=aBv e;rw [hf k hk] at y;simp at y;rw [d,y.1]
theorem iW.store {w:World} {z n:Nat} {f:Nat->Bool} (h:iW w z n f) (hn:n<1000000) (v:Bool):∃ w',(Instr.mapUpdate 114 (.map (some z)) (.int .i64 (n:Int)) (.bool v)).run prog w=.ok () w'/\iW w' z (n+1) (fun j=>if j=n then v else f j)/\w.grownBy w' (some z):=by
 obtain ⟨D,d,hf⟩:=h;have y:wfI (n:Int):=dL (by omega);obtain ⟨w',h1,h2,h3⟩:=d.update jI Tryz.underlying114 (by simp only [maxLen];omega) (aNF y) (plainElem_bool Tryz.underlying4 v);have hm:=d.isMap;refine ⟨w',h1,⟨_,h2,fun j hj=>?_⟩,h3⟩
 by_cases e:j=n
 ·subst e;show _=DataW.lit (Lit.bool (if j=j then v else f j));rw [if_pos rfl];exact Maps.atKey_put_same hm (aDc _ y) _ _
 show _=DataW.lit (Lit.bool (if j=n then v else f j));rw [if_neg e,Maps.atKey_put_other (vP (by omega))];exact hf j (by omega)
structure mG (w:World) (b:Nat) (ev qv:Value) (mo:Option Nat) (t:Tb) (kk:Nat):Prop where
 row:∃ U,Row w b U [.bool true,ev,qv,.int .i64 (t.ph:Int),.int .i64 (t.nx:Int),.map mo]
 ents:iO w 123 0 ev t.ents
 q:aK w 0 qv t.q
 fnd:∀ mb,mo=some mb->∃ n f,iW w mb n f/\n<=20/\(t.ph=2->kk<=n/\∀ i,i<kk->f i=t.fd i)
 two:t.ph=2->0<kk->mo≠none
 n1:∀ g,ev.ownBlock=some g->g≠b/\mo≠some g/\qv.ownBlock≠some g
 n2:∀ g,qv.ownBlock=some g->g≠b/\mo≠some g
 n3:mo≠some b
def TbA (b:Nat) (t:Tb) (kk:Nat):Asn:=
 ⟨fun w S=>∃ z qv mo,mG w b z qv mo t kk/\∀ k,S k↔(k=b\/z.ownBlock=some k\/qv.ownBlock=some k\/mo=some k),
  fun ⟨z,qv,mo,h,y⟩ ho hd=>⟨z,qv,mo,⟨h.row.imp fun U x=>ho.row x (fun x=>hd b x ((y b).2 (.inl rfl))),h.ents.dA ho (fun k d x=>hd k x ((y k).2 (.inr (.inl d)))),h.q.dA ho (fun k d x=>hd k x ((y k).2 (.inr (.inr (.inl d))))),
   fun mb e=>by
    obtain ⟨n,f,h1,h2⟩:=h.fnd mb e;exact ⟨n,f,h1.only ho (fun x=>hd mb x ((y mb).2 (.inr (.inr (.inr e))))),h2⟩,h.two,h.n1,h.n2,h.n3⟩,y⟩,
  fun ⟨z,qv,mo,h,y⟩ d=>by
   rcases (y _).1 d with e|e|e|e
   ·obtain ⟨U,hr⟩:=h.row;rw [e];exact hr.lt
   ·exact (h.ents.own _ e).2
   ·exact (h.q.own _ e).2
   obtain ⟨n,f,h1,_⟩:=h.fnd _ e;exact h1.lt⟩
def aAv (t:Tb) (next:Nat):Prop:=(t.ph=1->nxt t.ents 1 next=nxt t.ents 1 t.nx)/\(t.ph=2->nxt t.ents 2 next=nxt t.ents 2 t.nx)/\(t.ph=4->nxt t.ents 3 next=nxt t.ents 3 t.nx)
structure kU (w:World) (b:Nat) (ev qv wv:Value) (nx:Nat) (wl:List Bool) (t:Tb):Prop where
 row:∃ U,Row w b U [ev,qv,.int .i64 (t.ph:Int),.int .i64 (nx:Int),wv]
 ents:iO w 48 0 ev t.ents
 q:aK w 0 qv t.q
 wh:Bls w 0 wv wl
 now:aAv t nx
 two:wl.length<=20/\(t.ph=2->wl.length=t.ents.length/\∀ i,i<t.ents.length->(eAt t.ents i).kind=2->gB wl i=t.fd i)
 n1:∀ g,ev.ownBlock=some g->g≠b/\wv.ownBlock≠some g/\qv.ownBlock≠some g
 n2:∀ g,qv.ownBlock=some g->g≠b/\wv.ownBlock≠some g
 n3:wv.ownBlock≠some b
def TrA (b:Nat) (t:Tb):Asn:=
 ⟨fun w S=>∃ d qv wv nx wl,kU w b d qv wv nx wl t/\∀ k,S k↔(k=b\/d.ownBlock=some k\/qv.ownBlock=some k\/wv.ownBlock=some k),
  fun ⟨d,qv,wv,nx,wl,h,y⟩ ho hd=>⟨d,qv,wv,nx,wl,⟨h.row.imp fun U x=>ho.row x (fun x=>hd b x ((y b).2 (.inl rfl))),h.ents.dA ho (fun k z x=>hd k x ((y k).2 (.inr (.inl z)))),h.q.dA ho (fun k z x=>hd k x ((y k).2 (.inr (.inr (.inl z))))),
   h.wh.dA ho (fun k z x=>hd k x ((y k).2 (.inr (.inr (.inr z))))),h.now,h.two,h.n1,h.n2,h.n3⟩,y⟩,
  fun ⟨d,qv,wv,nx,wl,h,y⟩ z=>by
   rcases (y _).1 z with e|e|e|e
   ·obtain ⟨U,hr⟩:=h.row;rw [e];exact hr.lt
   ·exact (h.ents.own _ e).2
   ·exact (h.q.own _ e).2
   exact (h.wh.own _ e).2⟩
def PL (l:List Asn) (i j k hb p b:Nat) (m:Mk) (t:Tb) (kk:Nat):List Asn:=ML (l.set k (TbA b t kk)) i j hb p m
structure Three (l:List Asn) (i j k:Nat):Prop where
 two:gX l i j
 hk:k<l.length
 ki:k≠i
 kj:k≠j
theorem gX.put {l:List Asn} {i j:Nat} (h:gX l i j) (k:Nat) (A:Asn):gX (l.set k A) i j:=⟨by rw [List.length_set];exact h.hi,by rw [List.length_set];exact h.hj,h.ne⟩
theorem Three.t2 {l:List Asn} {i j k:Nat} (h:Three l i j k) {A:Asn}:gX (l.set k A) i j:=h.two.put k A
section
variable {l:List Asn} {i j k hb p b:Nat} {m:Mk} {t:Tb} {kk:Nat} {w0 w w':World}
theorem PL.self (h:Three l i j k):(PL l i j k hb p b m t kk)[k]?=some (TbA b t kk):=by
 unfold PL ML;rw [List.getElem?_set_ne (Ne.symm h.kj),List.getElem?_set_ne (Ne.symm h.ki),List.getElem?_set_self h.hk]
theorem PL.put (h:Three l i j k) (t':Tb) (y:Nat):(PL l i j k hb p b m t kk).set k (TbA b t' y)=PL l i j k hb p b m t' y:=by
 unfold PL ML;rw [List.set_comm _ _ (Ne.symm h.kj),List.set_comm _ _ (Ne.symm h.ki),List.set_set]
theorem mG.same {ev qv y d:Value} {mo z:Option Nat} {t2:Tb} {k2:Nat} (h:mG w b ev qv mo t kk) (h2:mG w b y d z t2 k2):y=ev/\d=qv/\z=mo:=by
 obtain ⟨U,e⟩:=h.row;obtain ⟨U2,h4⟩:=h2.row;have e1:=(e.cell 1 rfl).symm.trans (h4.cell 1 rfl);have e2:=(e.cell 2 rfl).symm.trans (h4.cell 2 rfl);have e3:=(e.cell 5 rfl).symm.trans (h4.cell 5 rfl);simp at e1 e2 e3;exact ⟨e1.symm,e2.symm,e3.symm⟩
theorem PL.tb (h:Three l i j k) (hf:Fam w0 w (PL l i j k hb p b m t kk)):∃ y d z,mG w b y d z t kk:=by
 obtain ⟨S,⟨y,d,z,e,_⟩,_⟩:=hf.get k (PL.self h);exact ⟨y,d,z,e⟩
def tbS (b:Nat) (y d:Value) (z:Option Nat) (x:Nat):Prop:=x=b\/y.ownBlock=some x\/d.ownBlock=some x\/z=some x
theorem PL.tbT (h:Three l i j k) (hf:Fam w0 w (PL l i j k hb p b m t kk)) {ev qv:Value} {mo:Option Nat} (hm:mG w b ev qv mo t kk) (y d:Value) (z:Option Nat) (t':Tb) (e:Nat) (h1:mG w' b y d z t' e)
  (h2:∀ x,tbS b y d z x->tbS b ev qv mo x\/w.heap.size<=x) (h3:aI (tbS b ev qv mo) w w'):Fam w0 w' (PL l i j k hb p b m t' e):=by
 rw [<-PL.put h t' e (t:=t) (kk:=kk)];refine hf.turn k (PL.self h) fun S hS=>?_;obtain ⟨h4,h6,h5,h0,hS⟩:=hS;obtain ⟨rfl,rfl,rfl⟩:=hm.same h0;exact ⟨tbS b y d z,⟨y,d,z,h1,fun k=>Iff.rfl⟩,fun k hk=>(h2 k hk).imp (fun x=>(hS k).2 x) id,h3.mono (fun k hk=>.inl ((hS k).2 hk))⟩
theorem mG.cells {y d:Value} {z:Option Nat} (h:mG w b y d z t kk):w.cell? ⟨b,0,none⟩=some (.bool true)/\w.cell? ⟨b,1,none⟩=some y/\w.cell? ⟨b,2,none⟩=some d/\w.cell? ⟨b,3,none⟩=some (.int .i64 (t.ph:Int))/\w.cell? ⟨b,4,none⟩=some (.int .i64 (t.nx:Int))/\w.cell? ⟨b,5,none⟩=some (.map z)/\∀ k,w.frozen? ⟨b,k,none⟩=false:=by
 obtain ⟨U,h⟩:=h.row;exact ⟨h.cell 0 rfl,h.cell 1 rfl,h.cell 2 rfl,h.cell 3 rfl,h.cell 4 rfl,h.cell 5 rfl,fun k=>h.free k⟩
theorem mG.rest {ev qv:Value} {mo:Option Nat} (h:mG w b ev qv mo t kk) (d:Only [b] w w'):iO w' 123 0 ev t.ents/\aK w' 0 qv t.q/\∀ y,mo=some y->∃ n f,iW w' y n f/\n<=20/\(t.ph=2->kk<=n/\∀ i,i<kk->f i=t.fd i):=
 ⟨h.ents.only d (fun g z x=>(h.n1 g z).1 (by simpa using x)),h.q.only d (fun g z x=>(h.n2 g z).1 (by simpa using x)),fun y e=>by
  obtain ⟨n,f,h1,h2⟩:=h.fnd y e;refine ⟨n,f,h1.only (d.toP (S:=fun x=>x=b) (fun x hx=>.inl (by simpa using hx))) (fun x=>h.n3 (by rw [e,x])),h2⟩⟩
theorem mG.aN {y e:Value} {d:Option Nat} (h:mG w b y e d t kk) (z:Only [] w w'):mG w' b y e d t kk:=by
 obtain ⟨h1,h2,h3⟩:=h.rest (z.mono (by simp));exact ⟨h.row.imp fun U x=>z.row x (by simp),h1,h2,h3,h.two,h.n1,h.n2,h.n3⟩
theorem PL.aCt (h:Three l i j k) (z:Fam w0 w (PL l i j k hb p b m t kk)) (n:Nat):Fam w0 (w.setCell ⟨b,4,none⟩ (.int .i64 (n:Int))) (PL l i j k hb p b m (t.at t.ph n) kk):=by
 obtain ⟨e,qv,mo,y⟩:=PL.tb h z;have d:Only [b] w (w.setCell ⟨b,4,none⟩ (.int .i64 (n:Int))):=(Only.refl _ w).set (.inl (by simp)) _;obtain ⟨h1,h2,h3⟩:=y.rest d;exact PL.tbT h z y e qv mo _ _ ⟨y.row.imp fun U x=>x.set 4 _,h1,h2,h3,y.two,y.n1,y.n2,y.n3⟩ (fun x hx=>.inl hx) (d.toP (fun x hx=>.inl (.inl (by simpa using hx))))
theorem PL.sZ (h:Three l i j k) (z:Fam w0 w (PL l i j k hb p b m t kk)) (n:Nat):Fam w0 (w.setCell ⟨b,3,none⟩ (.int .i64 (n:Int))) (PL l i j k hb p b m (t.at n t.nx) 0):=by
 obtain ⟨ev,qv,mo,y⟩:=PL.tb h z;have d:Only [b] w (w.setCell ⟨b,3,none⟩ (.int .i64 (n:Int))):=(Only.refl _ w).set (.inl (by simp)) _;obtain ⟨h1,h2,h3⟩:=y.rest d;exact PL.tbT h z y ev qv mo _ _ ⟨y.row.imp fun U x=>x.set 3 _,h1,h2,fun mb e=>by
  obtain ⟨n,f,h4,h5,_⟩:=h3 mb e;exact ⟨n,f,h4,h5,fun _=>⟨Nat.zero_le _,fun i hi=>by omega⟩⟩,fun _ x=>absurd x (by omega),y.n1,y.n2,y.n3⟩ (fun x hx=>.inl hx) (d.toP (fun x hx=>.inl (.inl (by simpa using hx))))
theorem PL.aSH (h:Three l i j k) (d:Fam w0 w (PL l i j k hb p b m t kk)) (hp:t.ph≠2) (z:Nat) (fd:Nat->Bool):Fam w0 w (PL l i j k hb p b m ⟨t.ents,t.q,t.ph,t.nx,fd⟩ z):=by
 obtain ⟨ev,qv,mo,y⟩:=PL.tb h d;exact PL.tbT h d y ev qv mo _ _ ⟨y.row,y.ents,y.q,fun mb e=>by
  obtain ⟨n,f,h4,h5,_⟩:=y.fnd mb e;exact ⟨n,f,h4,h5,fun e=>absurd e hp⟩,fun x=>absurd x hp,y.n1,y.n2,y.n3⟩ (fun x hx=>.inl hx) (aI.refl _ _)
theorem PL.fd0 (h:Three l i j k) (z:Fam w0 w (PL l i j k hb p b m t 0)) (fd:Nat->Bool):Fam w0 w (PL l i j k hb p b m ⟨t.ents,t.q,t.ph,t.nx,fd⟩ 0):=by
 obtain ⟨d,qv,mo,y⟩:=PL.tb h z;exact PL.tbT h z y d qv mo _ _ ⟨y.row,y.ents,y.q,fun mb e=>by
  obtain ⟨n,f,h4,h5,h6⟩:=y.fnd mb e;exact ⟨n,f,h4,h5,fun e=>⟨Nat.zero_le _,fun i hi=>by omega⟩⟩,fun _ x=>absurd x (by omega),y.n1,y.n2,y.n3⟩ (fun x hx=>.inl hx) (aI.refl _ _)
theorem PL.aPN (h:Three l i j k) (z:Fam w0 w (PL l i j k hb p b m t kk)):Fam w0 ((w.alloc (.map #[] 0)).setCell ⟨b,5,none⟩ (.map (some w.heap.size))) (PL l i j k hb p b m t 0):=by
 obtain ⟨ev,qv,mo,y⟩:=PL.tb h z;have h4:Only [] w (w.alloc (.map #[] 0)):=(Only.refl _ w).alloc _;have d:Only [b] w ((w.alloc (.map #[] 0)).setCell ⟨b,5,none⟩ (.map (some w.heap.size))):=((Only.refl _ w).alloc _).set (.inl (by simp)) _;obtain ⟨h1,h2,h3⟩:=y.rest d;have h0:b<w.heap.size:=by obtain ⟨U,hr⟩:=y.row;exact hr.lt
 refine PL.tbT h z y ev qv (some w.heap.size) _ _ ⟨y.row.imp fun U x=>(x.alloc _).set 5 _,h1,h2,fun mb e=>?_,fun _ x=>absurd x (by omega),fun g hg=>⟨(y.n1 g hg).1,fun e=>?_,(y.n1 g hg).2.2⟩,fun g hg=>⟨(y.n2 g hg).1,fun e=>?_⟩,fun e=>?_⟩ (fun x hx=>?_) (d.toP (fun x hx=>.inl (.inl (by simpa using hx))))
 ·cases e
  have hq:Only [b] (w.alloc (.map #[] 0)) ((w.alloc (.map #[] 0)).setCell ⟨b,5,none⟩ (.map (some w.heap.size))):=(Only.refl _ _).set (.inl (by simp)) _;exact ⟨0,t.fd,(iW.made w t.fd).only (hq.toP (S:=fun x=>x=b) (fun x hx=>.inl (by simpa using hx))) (fun x=>by omega),by omega,fun _=>⟨Nat.le_refl _,fun i hi=>rfl⟩⟩
 ·cases e;have:=(y.ents.own _ hg).2;omega
 ·cases e;have:=(y.q.own _ hg).2;omega
 ·cases e;omega
 rcases hx with hx|hx|hx|hx
 ·exact .inl (.inl hx)
 ·exact .inl (.inr (.inl hx))
 ·exact .inl (.inr (.inr (.inl hx)))
 cases hx;exact .inr (Nat.le_refl _)
theorem PL.aPO (h:Three l i j k) (hf:Fam w0 w (PL l i j k hb p b m t kk)) {ev qv:Value} {z:Nat} (y:mG w b ev qv (some z) t kk) {f:Nat->Bool} (hm:iW w z kk f) (h0:∀ i,i<kk->f i=t.fd i) (hk:kk<20):∃ w',(Instr.mapUpdate 114 (.map (some z)) (.int .i64 (kk:Int)) (.bool (t.fd kk))).run prog w=.ok () w'/\iW w' z (kk+1) (fun j=>if j=kk then t.fd kk else f j)/\Only [z] w w'/\Fam w0 w' (PL l i j k hb p b m t (kk+1))/\mG w' b ev qv (some z) t (kk+1):=by
 obtain ⟨w',h1,h2,h3⟩:=hm.store (by omega) (t.fd kk);have d:Only [z] w w':=(Only.refl _ w).grown h3 (fun x hx=>.inl (by simp at hx;simp [hx]));have hT:mG w' b ev qv (some z) t (kk+1):=⟨y.row.imp fun U x=>d.row x (by have:=y.n3;simp at this ⊢;exact fun e=>this e.symm),y.ents.only d (fun g hg x=>(y.n1 g hg).2.1 (by simp at x;rw [x])),y.q.only d (fun g hg x=>(y.n2 g hg).2 (by simp at x;rw [x])),fun h4 e=>by
   cases e
   refine ⟨kk+1,_,h2,by omega,fun _=>⟨Nat.le_refl _,fun i hi=>?_⟩⟩
   by_cases e:i=kk
   ·subst e;exact if_pos rfl
   show (if i=kk then t.fd kk else f i)=_;rw [if_neg e];exact h0 i (by omega),fun _ _=>by simp,y.n1,y.n2,y.n3⟩
 exact ⟨w',h1,h2,d,PL.tbT h hf y ev qv (some z) _ _ hT (fun x hx=>.inl hx) (d.toP (fun x hx=>.inl (.inr (.inr (.inr (by simp at hx;rw [hx])))))),hT⟩
end
section
variable {l:List Asn} {i j k hb p b:Nat} {m:Mk} {t:Tb} {kk:Nat} {w0 w:World}
theorem aCl (w:World):Calls prog 73 #[.pointer none] w (aO w (.bool true)):=by
 refine aF fun R y=>?_;go_in;go_wp2;exact y.out _ _ ⟨rfl,rfl⟩
theorem dY (w:World) {b:Nat} (h:w.cell? ⟨b,0,none⟩=some (.bool true)):Calls prog 73 #[.pointer (some ⟨b,0,none⟩)] w (aO w (.bool false)):=by
 refine aF fun R y=>?_;go_in;go_wp2;exact y.out _ _ ⟨rfl,rfl⟩
theorem aPu (w:World):Calls prog 22 #[.pointer none] w (aO w (.int .i64 0)):=by
 refine aF fun R y=>?_;go_in;go_wp2_with fail;refine (aCl _).mono ?_;rintro e _ ⟨rfl,rfl⟩;go_wp2;exact y.out _ _ ⟨rfl,rfl⟩
theorem aJV:(prog.info? 123).map (fun i=>(i.zero,i.size,i.bytes))=some (some (.agg #[.int .i64 0,.int .i64 0,.int .i64 0]),3,24):=by kernel_rfl
theorem aIV:(prog.info? 123).map (·.size)=some 3:=by kernel_rfl
theorem zN {w:World} {e:Nat} {x y z:Value} {U:Nat} (h:Row w e U [x,y,z]) {fn:Func} {p u:Tmp} (hr:fn.results=#[.cell p 123,.tmp u]) (d:Array Value) (hp:d.getD p undef=.pointer (some ⟨e,0,none⟩)):(results fn d).run prog w=.ok (.tuple #[.agg #[x,y,z],d.getD u undef]) w:=by
 have hl:=mZ (P:=prog) w e 0 123 [x,y,z] _ Tryz.underlying123 rfl aIV (fun j v hv=>by rw [Nat.zero_add];exact h.cell j hv);rw [results_cell_tmp hr,hp];simp [asAddr,Result.andThen,hl]
def enV (e:En):Value:=.agg #[.int .i64 e.kind,.int .i64 e.tgt,.int .i64 e.tag]
def En.nil:En:=⟨0,0,0⟩
def Tb.entry (t:Tb) (n:Int):En×Int:=if n<0\/(t.ents.length:Int)<=n then (En.nil,1) else (eAt t.ents n.toNat,0)
theorem aOa (w:World) {ev qv:Value} {mo:Option Nat} (h:mG w b ev qv mo t kk) (n:Int):Calls prog 77 #[.pointer (some ⟨b,0,none⟩),.int .i64 n] w (fun e w'=>e=.returned (.tuple #[enV (t.entry n).1,.int .i64 (t.entry n).2])/\Only [] w w'):=by
 refine aF fun R hR=>?_;have HO:Hid (Only [] w (w.alloc (.cells #[.int .i64 0,.int .i64 0,.int .i64 0] 123))):=(Only.refl [] w).alloc _;have z:Hid (Row (w.alloc (.cells #[.int .i64 0,.int .i64 0,.int .i64 0] 123)) w.heap.size 123 [.int .i64 0,.int .i64 0,.int .i64 0]):=Row.new w _ _;have h1:=h.aN HO.out;obtain ⟨z0,z1,z2,z3,z4,z5,_⟩:=h1.cells;have hn:=dY _ z0;have HE:=aA h1.ents;clear h h1 z2 z3 z4 z5;unfold Tb.entry at hR;obtain ⟨a,c,rfl⟩:=HE.out.len;have f0:=z.out.free 0;have f1:=z.out.free 1;have f2:=z.out.free 2;have y0:=z.out.cell 0 rfl;have y1:=z.out.cell 1 rfl;have y2:=z.out.cell 2 rfl
 by_cases hb:n<0\/(t.ents.length:Int)<=n
 ·rw [if_pos hb] at hR
  by_cases h2:n<0
  ·generalize t.ents.length=h0 at*;clear hb;go_in;go_wp2_with fail;refine hn.mono ?_;rintro e _ ⟨rfl,rfl⟩;clear hn;generalize d:w.heap.size=rb at*;have y:=aA d;clear d;generalize w.alloc (.cells #[.int .i64 0,.int .i64 0,.int .i64 0] 123)=w1 at*;go_wp2;refine bodyPost_ret (zN (((z.out.set 0 _).set 1 _).set 2 _) rfl _ rfl) rfl ?_;refine hR.out _ _ ⟨rfl,?_⟩;exact ((HO.out.set (.inr (by show _<=rb;rw [y.out];exact Nat.le_refl _)) _).set (.inr (by show _<=rb;rw [y.out];exact Nat.le_refl _)) _).set (.inr (by show _<=rb;rw [y.out];exact Nat.le_refl _)) _
  have h4:(t.ents.length:Int)<=n:=hb.resolve_left h2;generalize t.ents.length=h0 at*;clear hb;go_in;go_wp2_with fail;refine hn.mono ?_;rintro e _ ⟨rfl,rfl⟩;clear hn;generalize d:w.heap.size=rb at*;have y:=aA d;clear d;generalize w.alloc (.cells #[.int .i64 0,.int .i64 0,.int .i64 0] 123)=w1 at*;go_wp2;refine bodyPost_ret (zN (((z.out.set 0 _).set 1 _).set 2 _) rfl _ rfl) rfl ?_;refine hR.out _ _ ⟨rfl,?_⟩;exact ((HO.out.set (.inr (by show _<=rb;rw [y.out];exact Nat.le_refl _)) _).set (.inr (by show _<=rb;rw [y.out];exact Nat.le_refl _)) _).set (.inr (by show _<=rb;rw [y.out];exact Nat.le_refl _)) _
 rw [if_neg hb] at hR;obtain ⟨k,rfl⟩:∃ k:Nat,n=k:=⟨n.toNat,by omega⟩;have h3:k<t.ents.length:=by omega
 obtain ⟨g,c2,hv,hg,hc,q0,q1,q2,_⟩:=HE.out.at h3;rw [Int.toNat_natCast] at hR;have h5:(0:Int)<=k:=by omega
 have h6:(k:Int)<t.ents.length:=by omega
 simp only [Value.slice.injEq,true_and] at hv;obtain ⟨rfl,rfl⟩:=hv;have HQ:Hid (∀ j v,[Value.int .i64 (eAt t.ents k).kind,.int .i64 (eAt t.ents k).tgt,.int .i64 (eAt t.ents k).tag][j]?=some v->(w.alloc (.cells #[.int .i64 0,.int .i64 0,.int .i64 0] 123)).cell? ⟨g,k*3+j,none⟩=some v):=fun j v hv=>by
  match j,hv with
  | 0,hv=>cases hv;exact q0
  | 1,hv=>cases hv;exact q1
  | 2,hv=>cases hv;exact q2
  | j+3,hv=>simp at hv
 unfold enV at hR;generalize eAt t.ents k=en at*;generalize t.ents.length=h0 at*;clear hb q0 q1 q2;go_in;go_wp2_with fail;refine hn.mono ?_;rintro e _ ⟨rfl,rfl⟩;clear hn;generalize d:w.heap.size=rb at*;have y:=aA d;clear d;generalize w.alloc (.cells #[.int .i64 0,.int .i64 0,.int .i64 0] 123)=w1 at*;go_wp2_with (refine eU rfl 123 _ rfl g (k*3) rfl [.int .i64 en.kind,.int .i64 en.tgt,.int .i64 en.tag] _ Tryz.underlying123 rfl aIV HQ.out ?_);refine bodyPost_ret (zN (((z.out.set 0 _).set 1 _).set 2 _) rfl _ rfl) rfl ?_;refine hR.out _ _ ⟨rfl,?_⟩;exact ((HO.out.set (.inr (by show _<=rb;rw [y.out];exact Nat.le_refl _)) _).set (.inr (by show _<=rb;rw [y.out];exact Nat.le_refl _)) _).set (.inr (by show _<=rb;rw [y.out];exact Nat.le_refl _)) _
end
end Go.Proofs.YthflghdaejbdkaaGreat
