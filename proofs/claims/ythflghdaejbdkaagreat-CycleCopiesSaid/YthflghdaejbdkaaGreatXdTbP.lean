/- Lemmas of this claim. -/
import Derived.Test.YthflghdaejbdkaaGreatXdTbModel
import Derived.Test.YthflghdaejbdkaaGreatXdMkG
import Derived.Laws.ResultCell
namespace Go.Proofs.YthflghdaejbdkaaGreat
open _root_.Go.Proofs.Tryz (prog)
open Go.RowKit Go.Maps
set_option maxHeartbeats 3200000
set_option maxRecDepth 100000
set_option linter.unusedVariables false
def enC (e:En):List Value:=[.int .i64 e.kind,.int .i64 e.tgt,.int .i64 e.tag]
def dB (l:List En):List Value:=l.flatMap enC
theorem lJ (l:List En):(dB l).length=l.length*3:=by
 unfold dB
 induction l with
 | nil=>rfl
 | cons e l ih=>rw [List.flatMap_cons,List.length_append,ih];simp [enC];omega
theorem yN (l l':List En):dB (l ++ l')=dB l ++ dB l':=by unfold dB;rw [List.flatMap_append]
theorem tN (l:List En) {i j:Nat} (hi:i<l.length) (hj:j<3):(dB l)[i*3+j]?=(enC (eAt l i))[j]?:=by
 induction l generalizing i with
 | nil=>simp at hi
 | cons e l ih=>
  unfold dB;rw [List.flatMap_cons]
  cases i with
  | zero=>
   rw [Nat.zero_mul,Nat.zero_add,List.getElem?_append_left (by simp [enC];omega)];rfl
  | succ i=>
   rw [List.getElem?_append_right (by simp [enC];omega)];have h1:(i+1)*3+j - (enC e).length=i*3+j:=by simp [enC];omega
   rw [h1];have h2:=ih (i:=i) (by simp at hi;omega);unfold dB at h2;rw [h2];rfl
def iF (w:World) (T base:Nat) (v:Value) (l:List En):Prop:=w.ownsRow base T 3 v l.length (dB l)
section
variable {w w':World} {T base:Nat} {v:Value} {l:List En}
theorem iF.own (h:iF w T base v l):∀ k,v.ownBlock=some k->base<=k/\k<w.heap.size:=World.ownsRow.lt h
theorem iF.bW {S:Nat->Prop} (h:iF w T base v l) (hg:aI S w w') (hF:∀ k,v.ownBlock=some k->¬ S k):iF w' T base v l:=by
 refine ⟨h.1,?_⟩;rcases h.2 with h2|⟨g,cap,cur,hv,hb,hh,r⟩
 ·exact .inl h2
 exact .inr ⟨g,cap,cur,hv,hb,by rw [hg.block g (Array.getElem?_eq_some_iff.1 hh).1 (hF g (by rw [hv];rfl))];exact hh,r⟩
theorem iF.only {F:List Nat} (h:iF w T base v l) (hg:Only F w w') (hF:∀ k,v.ownBlock=some k->k∉F):iF w' T base v l:=h.bW (hg.toP (S:=fun k=>k∈F) (fun x hx=>.inl hx)) hF
theorem iF.nil (w:World) (T base:Nat):iF w T base (.slice none 0 0) []:=World.ownsRow_nil _ _ _ _
theorem iF.len (h:iF w T base v l):∃ a cap,v=.slice a l.length cap:=by
 rcases h.2 with ⟨h1,h2⟩|⟨g,cap,cur,hv,_⟩
 ·exact ⟨none,0,by rw [h1,h2]⟩
 exact ⟨_,cap,hv⟩
end
section
variable {w:World} {T base:Nat} {v:Value} {l:List En}
theorem iF.low (h:iF w T base v l) {b:Nat} (hb:b<=base):iF w T b v l:=World.ownsRow.mono h hb
theorem iF.form (h:iF w T base v l) (hl:l≠[]):∃ g cap,v=.slice (some ⟨g,0,none⟩) l.length cap/\base<=g/\g<w.heap.size/\l.length<=cap:=by
 rcases h.2 with ⟨h1,h2⟩|⟨g,cap,cur,hv,hg,hh,hc,_⟩
 ·exact absurd (List.eq_nil_of_length_eq_zero h2) hl
 exact ⟨g,cap,hv,hg,(Array.getElem?_eq_some_iff.1 hh).1,hc⟩
theorem iF.at (h:iF w T base v l) {i:Nat} (hi:i<l.length):∃ g cap,v=.slice (some ⟨g,0,none⟩) l.length cap/\g<w.heap.size/\l.length<=cap/\w.cell? ⟨g,i*3,none⟩=some (.int .i64 (eAt l i).kind)/\w.cell? ⟨g,i*3+1,none⟩=some (.int .i64 (eAt l i).tgt)/\w.cell? ⟨g,i*3+2,none⟩=some (.int .i64 (eAt l i).tag)/\∀ k,w.frozen? ⟨g,k,none⟩=false:=by
 obtain ⟨g,cap,rfl,hb,hg,hc⟩:=h.form (fun e=>by rw [e] at hi;simp at hi);refine ⟨g,cap,rfl,hg,hc,?_,?_,?_,fun k=>World.ownsRow.frozenAt h k⟩
 ·rw [World.ownsRow.cellAt h _ (by omega)];exact tN l (j:=0) hi (by omega)
 ·rw [World.ownsRow.cellAt h _ (by omega)];exact tN l (j:=1) hi (by omega)
 rw [World.ownsRow.cellAt h _ (by omega)];exact tN l (j:=2) hi (by omega)
theorem aEf (l:List En) {i:Nat} (hi:i<l.length) (x:Int):(dB l).set (i*3+1) (.int .i64 x)=dB (l.set i ⟨(eAt l i).kind,x,(eAt l i).tag⟩):=by
 induction l generalizing i with
 | nil=>simp at hi
 | cons e l ih=>
  cases i with
  | zero=>rfl
  | succ i=>
   have h2:=ih (i:=i) (by simp at hi;omega);rw [show (i+1)*3+1=(i*3+1)+1+1+1 by omega];show _ :: _ :: _ :: (dB l).set (i*3+1) _=_ :: _ :: _ :: dB (l.set i _);rw [h2];rfl
theorem iF.put (h:iF w T base v l) {i:Nat} (hi:i<l.length) (x:Int) {g cap n:Nat} (hv:v=.slice (some ⟨g,0,none⟩) n cap):iF (w.setCell ⟨g,i*3+1,none⟩ (.int .i64 x)) T base v (l.set i ⟨(eAt l i).kind,x,(eAt l i).tag⟩):=by
 obtain ⟨g2,cap2,h2,_⟩:=h.form (fun e=>by rw [e] at hi;simp at hi);rw [hv] at h2;simp only [Value.slice.injEq,Option.some.injEq,Addr.mk.injEq,and_true] at h2;obtain ⟨rfl,rfl,rfl⟩:=h2;subst hv;have h3:=(World.ownsRow.stored h (i*3+1) (.int .i64 x)).1;unfold iF;rw [List.length_set,<-aEf l hi x];exact h3
end
theorem aAM {v:Value} {z:DataW Unit×List MemPlace} (h:plainElem (H:=Unit) prog 4 v=some z):∃ b,v=.bool b/\z=(.lit (.bool b),[]):=by
 unfold plainElem at h;rw [Tryz.underlying4] at h
 cases v<;>simp at h
 exact ⟨_,rfl,h.symm⟩
theorem aPL (w:World):(zeroValue 4).run prog w=.ok (.bool false) w:=by kernel_rfl
def iO (w:World) (mb n:Nat) (f:Nat->Bool):Prop:=
 ∃ D:DataW Unit,w.ownsMap prog 3 (plainElem (H:=Unit) prog 4) mb n D/\∀ k:Nat,k<n->D.atKey (.int .i64 (k:Int)) (.lit (.bool false))=.lit (.bool (f k))
theorem iO.only {w w':World} {mb n:Nat} {f:Nat->Bool} {S:Nat->Prop} (h:iO w mb n f) (hg:aI S w w') (hS:¬ S mb):iO w' mb n f:=by
 obtain ⟨D,hD,hf⟩:=h;have hlt:=hD.lt;obtain ⟨es,clock,hb,r⟩:=hD;exact ⟨D,⟨es,clock,(hg.block mb hlt hS).trans hb,r⟩,hf⟩
theorem iO.lt {w:World} {mb n:Nat} {f:Nat->Bool} (h:iO w mb n f):mb<w.heap.size:=by obtain ⟨D,h,_⟩:=h;exact h.lt
theorem iO.made (w:World) (f:Nat->Bool):iO (w.alloc (.map #[] 0)) w.heap.size 0 f:=
 ⟨.map [],World.ownsMap_made _ _ _ _,fun k hk=>by omega⟩
theorem iO.look {w:World} {mb n:Nat} {f:Nat->Bool} (h:iO w mb n f) {k:Nat} (hk:k<n) (hn:n<=1000000):(Instr.lookup 114 (.map (some mb)) (.int .i64 (k:Int)) false).run prog w=.ok (.bool (f k)) w:=by
 obtain ⟨D,hD,hf⟩:=h;obtain ⟨v,ps,h1,h2⟩:=hD.lookup jA Tryz.underlying114 (aPL w) (plainElem_bool Tryz.underlying4 false) (aMj (dI (k:=(k:Int)) (by omega)));obtain ⟨c,rfl,hc⟩:=aAM h2;rw [hf k hk] at hc;simp at hc;rw [h1,hc.1]
theorem iO.store {w:World} {mb n:Nat} {f:Nat->Bool} (h:iO w mb n f) (hn:n<1000000) (v:Bool):∃ w',(Instr.mapUpdate 114 (.map (some mb)) (.int .i64 (n:Int)) (.bool v)).run prog w=.ok () w'/\iO w' mb (n+1) (fun j=>if j=n then v else f j)/\w.grownBy w' (some mb):=by
 obtain ⟨D,hD,hf⟩:=h;have hwk:wfI (n:Int):=dI (by omega);obtain ⟨w',h1,h2,h3⟩:=hD.update jA Tryz.underlying114 (by simp only [maxLen];omega) (aMj hwk) (plainElem_bool Tryz.underlying4 v);have hm:=hD.isMap;refine ⟨w',h1,⟨_,h2,fun j hj=>?_⟩,h3⟩
 by_cases e:j=n
 ·subst e;show _=DataW.lit (Lit.bool (if j=j then v else f j));rw [if_pos rfl];exact Maps.atKey_put_same hm (aCq _ hwk) _ _
 show _=DataW.lit (Lit.bool (if j=n then v else f j));rw [if_neg e,Maps.atKey_put_other (uK (by omega))];exact hf j (by omega)
structure lQ (w:World) (b:Nat) (ev qv:Value) (mo:Option Nat) (t:Tb) (kk:Nat):Prop where
 row:∃ U,Row w b U [.bool true,ev,qv,.int .i64 (t.ph:Int),.int .i64 (t.nx:Int),.map mo]
 ents:iF w 123 0 ev t.ents
 q:aO w 0 qv t.q
 fnd:∀ mb,mo=some mb->∃ n f,iO w mb n f/\n<=20/\(t.ph=2->kk<=n/\∀ i,i<kk->f i=t.fd i)
 two:t.ph=2->0<kk->mo≠none
 n1:∀ g,ev.ownBlock=some g->g≠b/\mo≠some g/\qv.ownBlock≠some g
 n2:∀ g,qv.ownBlock=some g->g≠b/\mo≠some g
 n3:mo≠some b
def TbA (b:Nat) (t:Tb) (kk:Nat):Asn:=
 ⟨fun w S=>∃ ev qv mo,lQ w b ev qv mo t kk/\∀ k,S k↔(k=b\/ev.ownBlock=some k\/qv.ownBlock=some k\/mo=some k),
  fun ⟨ev,qv,mo,h,hS⟩ ho hd=>⟨ev,qv,mo,⟨h.row.imp fun U x=>ho.row x (fun x=>hd b x ((hS b).2 (.inl rfl))),h.ents.bW ho (fun k hk x=>hd k x ((hS k).2 (.inr (.inl hk)))),h.q.bW ho (fun k hk x=>hd k x ((hS k).2 (.inr (.inr (.inl hk))))),
   fun mb e=>by
    obtain ⟨n,f,h1,h2⟩:=h.fnd mb e;exact ⟨n,f,h1.only ho (fun x=>hd mb x ((hS mb).2 (.inr (.inr (.inr e))))),h2⟩,h.two,h.n1,h.n2,h.n3⟩,hS⟩,
  fun ⟨ev,qv,mo,h,hS⟩ hk=>by
   rcases (hS _).1 hk with e|e|e|e
   ·obtain ⟨U,hr⟩:=h.row;rw [e];exact hr.lt
   ·exact (h.ents.own _ e).2
   ·exact (h.q.own _ e).2
   obtain ⟨n,f,h1,_⟩:=h.fnd _ e;exact h1.lt⟩
def zQ (t:Tb) (next:Nat):Prop:=(t.ph=1->nxt t.ents 1 next=nxt t.ents 1 t.nx)/\(t.ph=2->nxt t.ents 2 next=nxt t.ents 2 t.nx)/\(t.ph=4->nxt t.ents 3 next=nxt t.ents 3 t.nx)
structure kN (w:World) (b:Nat) (ev qv wv:Value) (nx:Nat) (wl:List Bool) (t:Tb):Prop where
 row:∃ U,Row w b U [ev,qv,.int .i64 (t.ph:Int),.int .i64 (nx:Int),wv]
 ents:iF w 48 0 ev t.ents
 q:aO w 0 qv t.q
 wh:Bls w 0 wv wl
 now:zQ t nx
 two:wl.length<=20/\(t.ph=2->wl.length=t.ents.length/\∀ i,i<t.ents.length->(eAt t.ents i).kind=2->gB wl i=t.fd i)
 n1:∀ g,ev.ownBlock=some g->g≠b/\wv.ownBlock≠some g/\qv.ownBlock≠some g
 n2:∀ g,qv.ownBlock=some g->g≠b/\wv.ownBlock≠some g
 n3:wv.ownBlock≠some b
def TrA (b:Nat) (t:Tb):Asn:=
 ⟨fun w S=>∃ ev qv wv nx wl,kN w b ev qv wv nx wl t/\∀ k,S k↔(k=b\/ev.ownBlock=some k\/qv.ownBlock=some k\/wv.ownBlock=some k),
  fun ⟨ev,qv,wv,nx,wl,h,hS⟩ ho hd=>⟨ev,qv,wv,nx,wl,⟨h.row.imp fun U x=>ho.row x (fun x=>hd b x ((hS b).2 (.inl rfl))),h.ents.bW ho (fun k hk x=>hd k x ((hS k).2 (.inr (.inl hk)))),h.q.bW ho (fun k hk x=>hd k x ((hS k).2 (.inr (.inr (.inl hk))))),
   h.wh.bW ho (fun k hk x=>hd k x ((hS k).2 (.inr (.inr (.inr hk))))),h.now,h.two,h.n1,h.n2,h.n3⟩,hS⟩,
  fun ⟨ev,qv,wv,nx,wl,h,hS⟩ hk=>by
   rcases (hS _).1 hk with e|e|e|e
   ·obtain ⟨U,hr⟩:=h.row;rw [e];exact hr.lt
   ·exact (h.ents.own _ e).2
   ·exact (h.q.own _ e).2
   exact (h.wh.own _ e).2⟩
def PL (l:List Asn) (i j k hb p b:Nat) (m:Mk) (t:Tb) (kk:Nat):List Asn:=ML (l.set k (TbA b t kk)) i j hb p m
structure Three (l:List Asn) (i j k:Nat):Prop where
 two:fZ l i j
 hk:k<l.length
 ki:k≠i
 kj:k≠j
theorem fZ.put {l:List Asn} {i j:Nat} (h:fZ l i j) (k:Nat) (A:Asn):fZ (l.set k A) i j:=⟨by rw [List.length_set];exact h.hi,by rw [List.length_set];exact h.hj,h.ne⟩
theorem Three.t2 {l:List Asn} {i j k:Nat} (h:Three l i j k) {A:Asn}:fZ (l.set k A) i j:=h.two.put k A
section
variable {l:List Asn} {i j k hb p b:Nat} {m:Mk} {t:Tb} {kk:Nat} {w0 w w':World}
theorem PL.self (h:Three l i j k):(PL l i j k hb p b m t kk)[k]?=some (TbA b t kk):=by
 unfold PL ML;rw [List.getElem?_set_ne (Ne.symm h.kj),List.getElem?_set_ne (Ne.symm h.ki),List.getElem?_set_self h.hk]
theorem PL.put (h:Three l i j k) (t':Tb) (kk':Nat):(PL l i j k hb p b m t kk).set k (TbA b t' kk')=PL l i j k hb p b m t' kk':=by
 unfold PL ML;rw [List.set_comm _ _ (Ne.symm h.kj),List.set_comm _ _ (Ne.symm h.ki),List.set_set]
theorem lQ.same {ev qv ev2 qv2:Value} {mo mo2:Option Nat} {t2:Tb} {k2:Nat} (h:lQ w b ev qv mo t kk) (h2:lQ w b ev2 qv2 mo2 t2 k2):ev2=ev/\qv2=qv/\mo2=mo:=by
 obtain ⟨U,h3⟩:=h.row;obtain ⟨U2,h4⟩:=h2.row;have e1:=(h3.cell 1 rfl).symm.trans (h4.cell 1 rfl);have e2:=(h3.cell 2 rfl).symm.trans (h4.cell 2 rfl);have e3:=(h3.cell 5 rfl).symm.trans (h4.cell 5 rfl);simp at e1 e2 e3;exact ⟨e1.symm,e2.symm,e3.symm⟩
theorem PL.tb (h:Three l i j k) (hf:Fam w0 w (PL l i j k hb p b m t kk)):∃ ev qv mo,lQ w b ev qv mo t kk:=by
 obtain ⟨S,⟨ev,qv,mo,h1,_⟩,_⟩:=hf.get k (PL.self h);exact ⟨ev,qv,mo,h1⟩
def tbS (b:Nat) (ev qv:Value) (mo:Option Nat) (x:Nat):Prop:=x=b\/ev.ownBlock=some x\/qv.ownBlock=some x\/mo=some x
theorem PL.tbT (h:Three l i j k) (hf:Fam w0 w (PL l i j k hb p b m t kk)) {ev qv:Value} {mo:Option Nat} (hm:lQ w b ev qv mo t kk) (ev' qv':Value) (mo':Option Nat) (t':Tb) (kk':Nat) (h1:lQ w' b ev' qv' mo' t' kk')
  (h2:∀ x,tbS b ev' qv' mo' x->tbS b ev qv mo x\/w.heap.size<=x) (h3:aI (tbS b ev qv mo) w w'):Fam w0 w' (PL l i j k hb p b m t' kk'):=by
 rw [<-PL.put h t' kk' (t:=t) (kk:=kk)];refine hf.turn k (PL.self h) fun S hS=>?_;obtain ⟨ev2,qv2,mo2,hm2,hS⟩:=hS;obtain ⟨rfl,rfl,rfl⟩:=hm.same hm2;exact ⟨tbS b ev' qv' mo',⟨ev',qv',mo',h1,fun k=>Iff.rfl⟩,fun k hk=>(h2 k hk).imp (fun x=>(hS k).2 x) id,h3.mono (fun k hk=>.inl ((hS k).2 hk))⟩
theorem lQ.cells {ev qv:Value} {mo:Option Nat} (h:lQ w b ev qv mo t kk):w.cell? ⟨b,0,none⟩=some (.bool true)/\w.cell? ⟨b,1,none⟩=some ev/\w.cell? ⟨b,2,none⟩=some qv/\w.cell? ⟨b,3,none⟩=some (.int .i64 (t.ph:Int))/\w.cell? ⟨b,4,none⟩=some (.int .i64 (t.nx:Int))/\w.cell? ⟨b,5,none⟩=some (.map mo)/\∀ k,w.frozen? ⟨b,k,none⟩=false:=by
 obtain ⟨U,h⟩:=h.row;exact ⟨h.cell 0 rfl,h.cell 1 rfl,h.cell 2 rfl,h.cell 3 rfl,h.cell 4 rfl,h.cell 5 rfl,fun k=>h.free k⟩
theorem lQ.rest {ev qv:Value} {mo:Option Nat} (h:lQ w b ev qv mo t kk) (ho:Only [b] w w'):iF w' 123 0 ev t.ents/\aO w' 0 qv t.q/\∀ mb,mo=some mb->∃ n f,iO w' mb n f/\n<=20/\(t.ph=2->kk<=n/\∀ i,i<kk->f i=t.fd i):=
 ⟨h.ents.only ho (fun g hg x=>(h.n1 g hg).1 (by simpa using x)),h.q.only ho (fun g hg x=>(h.n2 g hg).1 (by simpa using x)),fun mb e=>by
  obtain ⟨n,f,h1,h2⟩:=h.fnd mb e;refine ⟨n,f,h1.only (ho.toP (S:=fun x=>x=b) (fun x hx=>.inl (by simpa using hx))) (fun x=>h.n3 (by rw [e,x])),h2⟩⟩
theorem lQ.aN {ev qv:Value} {mo:Option Nat} (h:lQ w b ev qv mo t kk) (ho:Only [] w w'):lQ w' b ev qv mo t kk:=by
 obtain ⟨h1,h2,h3⟩:=h.rest (ho.mono (by simp));exact ⟨h.row.imp fun U x=>ho.row x (by simp),h1,h2,h3,h.two,h.n1,h.n2,h.n3⟩
theorem PL.aBI (h:Three l i j k) (hf:Fam w0 w (PL l i j k hb p b m t kk)) (n:Nat):Fam w0 (w.setCell ⟨b,4,none⟩ (.int .i64 (n:Int))) (PL l i j k hb p b m (t.at t.ph n) kk):=by
 obtain ⟨ev,qv,mo,ht⟩:=PL.tb h hf;have ho:Only [b] w (w.setCell ⟨b,4,none⟩ (.int .i64 (n:Int))):=(Only.refl _ w).set (.inl (by simp)) _;obtain ⟨h1,h2,h3⟩:=ht.rest ho;exact PL.tbT h hf ht ev qv mo _ _ ⟨ht.row.imp fun U x=>x.set 4 _,h1,h2,h3,ht.two,ht.n1,ht.n2,ht.n3⟩ (fun x hx=>.inl hx) (ho.toP (fun x hx=>.inl (.inl (by simpa using hx))))
theorem PL.rX (h:Three l i j k) (hf:Fam w0 w (PL l i j k hb p b m t kk)) (n:Nat):Fam w0 (w.setCell ⟨b,3,none⟩ (.int .i64 (n:Int))) (PL l i j k hb p b m (t.at n t.nx) 0):=by
 obtain ⟨ev,qv,mo,ht⟩:=PL.tb h hf;have ho:Only [b] w (w.setCell ⟨b,3,none⟩ (.int .i64 (n:Int))):=(Only.refl _ w).set (.inl (by simp)) _;obtain ⟨h1,h2,h3⟩:=ht.rest ho;exact PL.tbT h hf ht ev qv mo _ _ ⟨ht.row.imp fun U x=>x.set 3 _,h1,h2,fun mb e=>by
  obtain ⟨n,f,h4,h5,_⟩:=h3 mb e;exact ⟨n,f,h4,h5,fun _=>⟨Nat.zero_le _,fun i hi=>by omega⟩⟩,fun _ x=>absurd x (by omega),ht.n1,ht.n2,ht.n3⟩ (fun x hx=>.inl hx) (ho.toP (fun x hx=>.inl (.inl (by simpa using hx))))
theorem PL.aQT (h:Three l i j k) (hf:Fam w0 w (PL l i j k hb p b m t kk)) (hp:t.ph≠2) (kk':Nat) (fd:Nat->Bool):Fam w0 w (PL l i j k hb p b m ⟨t.ents,t.q,t.ph,t.nx,fd⟩ kk'):=by
 obtain ⟨ev,qv,mo,ht⟩:=PL.tb h hf;exact PL.tbT h hf ht ev qv mo _ _ ⟨ht.row,ht.ents,ht.q,fun mb e=>by
  obtain ⟨n,f,h4,h5,_⟩:=ht.fnd mb e;exact ⟨n,f,h4,h5,fun e=>absurd e hp⟩,fun x=>absurd x hp,ht.n1,ht.n2,ht.n3⟩ (fun x hx=>.inl hx) (aI.refl _ _)
theorem PL.fd0 (h:Three l i j k) (hf:Fam w0 w (PL l i j k hb p b m t 0)) (fd:Nat->Bool):Fam w0 w (PL l i j k hb p b m ⟨t.ents,t.q,t.ph,t.nx,fd⟩ 0):=by
 obtain ⟨ev,qv,mo,ht⟩:=PL.tb h hf;exact PL.tbT h hf ht ev qv mo _ _ ⟨ht.row,ht.ents,ht.q,fun mb e=>by
  obtain ⟨n,f,h4,h5,h6⟩:=ht.fnd mb e;exact ⟨n,f,h4,h5,fun e=>⟨Nat.zero_le _,fun i hi=>by omega⟩⟩,fun _ x=>absurd x (by omega),ht.n1,ht.n2,ht.n3⟩ (fun x hx=>.inl hx) (aI.refl _ _)
theorem PL.aOj (h:Three l i j k) (hf:Fam w0 w (PL l i j k hb p b m t kk)):Fam w0 ((w.alloc (.map #[] 0)).setCell ⟨b,5,none⟩ (.map (some w.heap.size))) (PL l i j k hb p b m t 0):=by
 obtain ⟨ev,qv,mo,ht⟩:=PL.tb h hf;have ho0:Only [] w (w.alloc (.map #[] 0)):=(Only.refl _ w).alloc _;have ho:Only [b] w ((w.alloc (.map #[] 0)).setCell ⟨b,5,none⟩ (.map (some w.heap.size))):=((Only.refl _ w).alloc _).set (.inl (by simp)) _;obtain ⟨h1,h2,h3⟩:=ht.rest ho;have hbl:b<w.heap.size:=by obtain ⟨U,hr⟩:=ht.row;exact hr.lt
 refine PL.tbT h hf ht ev qv (some w.heap.size) _ _ ⟨ht.row.imp fun U x=>(x.alloc _).set 5 _,h1,h2,fun mb e=>?_,fun _ x=>absurd x (by omega),fun g hg=>⟨(ht.n1 g hg).1,fun e=>?_,(ht.n1 g hg).2.2⟩,fun g hg=>⟨(ht.n2 g hg).1,fun e=>?_⟩,fun e=>?_⟩ (fun x hx=>?_) (ho.toP (fun x hx=>.inl (.inl (by simpa using hx))))
 ·cases e
  have hq:Only [b] (w.alloc (.map #[] 0)) ((w.alloc (.map #[] 0)).setCell ⟨b,5,none⟩ (.map (some w.heap.size))):=(Only.refl _ _).set (.inl (by simp)) _;exact ⟨0,t.fd,(iO.made w t.fd).only (hq.toP (S:=fun x=>x=b) (fun x hx=>.inl (by simpa using hx))) (fun x=>by omega),by omega,fun _=>⟨Nat.le_refl _,fun i hi=>rfl⟩⟩
 ·cases e;have:=(ht.ents.own _ hg).2;omega
 ·cases e;have:=(ht.q.own _ hg).2;omega
 ·cases e;omega
 rcases hx with hx|hx|hx|hx
 ·exact .inl (.inl hx)
 ·exact .inl (.inr (.inl hx))
 ·exact .inl (.inr (.inr (.inl hx)))
 cases hx;exact .inr (Nat.le_refl _)
theorem PL.aOk (h:Three l i j k) (hf:Fam w0 w (PL l i j k hb p b m t kk)) {ev qv:Value} {mb:Nat} (ht:lQ w b ev qv (some mb) t kk) {f:Nat->Bool} (hm:iO w mb kk f) (hff:∀ i,i<kk->f i=t.fd i) (hk:kk<20):∃ w',(Instr.mapUpdate 114 (.map (some mb)) (.int .i64 (kk:Int)) (.bool (t.fd kk))).run prog w=.ok () w'/\iO w' mb (kk+1) (fun j=>if j=kk then t.fd kk else f j)/\Only [mb] w w'/\Fam w0 w' (PL l i j k hb p b m t (kk+1))/\lQ w' b ev qv (some mb) t (kk+1):=by
 obtain ⟨w',h1,h2,h3⟩:=hm.store (by omega) (t.fd kk);have ho:Only [mb] w w':=(Only.refl _ w).grown h3 (fun x hx=>.inl (by simp at hx;simp [hx]));have hT:lQ w' b ev qv (some mb) t (kk+1):=⟨ht.row.imp fun U x=>ho.row x (by have:=ht.n3;simp at this ⊢;exact fun e=>this e.symm),ht.ents.only ho (fun g hg x=>(ht.n1 g hg).2.1 (by simp at x;rw [x])),ht.q.only ho (fun g hg x=>(ht.n2 g hg).2 (by simp at x;rw [x])),fun mb2 e=>by
   cases e
   refine ⟨kk+1,_,h2,by omega,fun _=>⟨Nat.le_refl _,fun i hi=>?_⟩⟩
   by_cases e:i=kk
   ·subst e;exact if_pos rfl
   show (if i=kk then t.fd kk else f i)=_;rw [if_neg e];exact hff i (by omega),fun _ _=>by simp,ht.n1,ht.n2,ht.n3⟩
 exact ⟨w',h1,h2,ho,PL.tbT h hf ht ev qv (some mb) _ _ hT (fun x hx=>.inl hx) (ho.toP (fun x hx=>.inl (.inr (.inr (.inr (by simp at hx;rw [hx])))))),hT⟩
end
section
variable {l:List Asn} {i j k hb p b:Nat} {m:Mk} {t:Tb} {kk:Nat} {w0 w:World}
theorem aBB (w:World):Calls prog 73 #[.pointer none] w (aK w (.bool true)):=by
 refine aF fun R hR=>?_;go_in;go_wp2_with fail;exact hR.out _ _ ⟨rfl,rfl⟩
theorem dU (w:World) {b:Nat} (h:w.cell? ⟨b,0,none⟩=some (.bool true)):Calls prog 73 #[.pointer (some ⟨b,0,none⟩)] w (aK w (.bool false)):=by
 refine aF fun R hR=>?_;go_in;go_wp2_with fail;exact hR.out _ _ ⟨rfl,rfl⟩
theorem aNO (w:World):Calls prog 22 #[.pointer none] w (aK w (.int .i64 0)):=by
 refine aF fun R hR=>?_;go_in;go_wp2_with fail;refine (aBB _).mono ?_;rintro e _ ⟨rfl,rfl⟩;go_wp2_with fail;exact hR.out _ _ ⟨rfl,rfl⟩
theorem aIF:(prog.info? 123).map (fun i=>(i.zero,i.size,i.bytes))=some (some (.agg #[.int .i64 0,.int .i64 0,.int .i64 0]),3,24):=by kernel_rfl
theorem aHM:(prog.info? 123).map (·.size)=some 3:=by kernel_rfl
theorem yM {w:World} {rb:Nat} {x y z:Value} {U:Nat} (h:Row w rb U [x,y,z]) {fn:Func} {p u:Tmp} (hr:fn.results=#[.cell p 123,.tmp u]) (tmps:Array Value) (hp:tmps.getD p undef=.pointer (some ⟨rb,0,none⟩)):(results fn tmps).run prog w=.ok (.tuple #[.agg #[x,y,z],tmps.getD u undef]) w:=by
 have hl:=lY (P:=prog) w rb 0 123 [x,y,z] _ Tryz.underlying123 rfl aHM (fun j v hv=>by rw [Nat.zero_add];exact h.cell j hv);rw [results_cell_tmp hr,hp];simp [asAddr,Result.andThen,hl]
def enV (e:En):Value:=.agg #[.int .i64 e.kind,.int .i64 e.tgt,.int .i64 e.tag]
def En.nil:En:=⟨0,0,0⟩
def Tb.entry (t:Tb) (n:Int):En×Int:=if n<0\/(t.ents.length:Int)<=n then (En.nil,1) else (eAt t.ents n.toNat,0)
theorem aMA (w:World) {ev qv:Value} {mo:Option Nat} (h:lQ w b ev qv mo t kk) (n:Int):Calls prog 77 #[.pointer (some ⟨b,0,none⟩),.int .i64 n] w (fun e w'=>e=.returned (.tuple #[enV (t.entry n).1,.int .i64 (t.entry n).2])/\Only [] w w'):=by
 refine aF fun R hR=>?_;have HO:Hid (Only [] w (w.alloc (.cells #[.int .i64 0,.int .i64 0,.int .i64 0] 123))):=(Only.refl [] w).alloc _;have HRW:Hid (Row (w.alloc (.cells #[.int .i64 0,.int .i64 0,.int .i64 0] 123)) w.heap.size 123 [.int .i64 0,.int .i64 0,.int .i64 0]):=Row.new w _ _;have h1:=h.aN HO.out;obtain ⟨z0,z1,z2,z3,z4,z5,_⟩:=h1.cells;have hn:=dU _ z0;have HE:=aA h1.ents;clear h h1 z2 z3 z4 z5;unfold Tb.entry at hR;obtain ⟨a,c,rfl⟩:=HE.out.len;have f0:=HRW.out.free 0;have f1:=HRW.out.free 1;have f2:=HRW.out.free 2;have y0:=HRW.out.cell 0 rfl;have y1:=HRW.out.cell 1 rfl;have y2:=HRW.out.cell 2 rfl
 by_cases hb:n<0\/(t.ents.length:Int)<=n
 ·rw [if_pos hb] at hR
  by_cases hb1:n<0
  ·generalize t.ents.length=len at*;clear hb;go_in;go_wp2_with fail;refine hn.mono ?_;rintro e _ ⟨rfl,rfl⟩;clear hn;generalize hrb:w.heap.size=rb at*;have HRB:=aA hrb;clear hrb;generalize w.alloc (.cells #[.int .i64 0,.int .i64 0,.int .i64 0] 123)=w1 at*;go_wp2_with fail;refine bodyPost_ret (yM (((HRW.out.set 0 _).set 1 _).set 2 _) rfl _ rfl) rfl ?_;refine hR.out _ _ ⟨rfl,?_⟩;exact ((HO.out.set (.inr (by show _<=rb;rw [HRB.out];exact Nat.le_refl _)) _).set (.inr (by show _<=rb;rw [HRB.out];exact Nat.le_refl _)) _).set (.inr (by show _<=rb;rw [HRB.out];exact Nat.le_refl _)) _
  have hb2:(t.ents.length:Int)<=n:=hb.resolve_left hb1;generalize t.ents.length=len at*;clear hb;go_in;go_wp2_with fail;refine hn.mono ?_;rintro e _ ⟨rfl,rfl⟩;clear hn;generalize hrb:w.heap.size=rb at*;have HRB:=aA hrb;clear hrb;generalize w.alloc (.cells #[.int .i64 0,.int .i64 0,.int .i64 0] 123)=w1 at*;go_wp2_with fail;refine bodyPost_ret (yM (((HRW.out.set 0 _).set 1 _).set 2 _) rfl _ rfl) rfl ?_;refine hR.out _ _ ⟨rfl,?_⟩;exact ((HO.out.set (.inr (by show _<=rb;rw [HRB.out];exact Nat.le_refl _)) _).set (.inr (by show _<=rb;rw [HRB.out];exact Nat.le_refl _)) _).set (.inr (by show _<=rb;rw [HRB.out];exact Nat.le_refl _)) _
 rw [if_neg hb] at hR;obtain ⟨k,rfl⟩:∃ k:Nat,n=k:=⟨n.toNat,by omega⟩;have hkl:k<t.ents.length:=by omega
 obtain ⟨g,c2,hv,hg,hc,q0,q1,q2,_⟩:=HE.out.at hkl;rw [Int.toNat_natCast] at hR;have hk0:(0:Int)<=k:=by omega
 have hk1:(k:Int)<t.ents.length:=by omega
 simp only [Value.slice.injEq,true_and] at hv;obtain ⟨rfl,rfl⟩:=hv;have HQ:Hid (∀ j v,[Value.int .i64 (eAt t.ents k).kind,.int .i64 (eAt t.ents k).tgt,.int .i64 (eAt t.ents k).tag][j]?=some v->(w.alloc (.cells #[.int .i64 0,.int .i64 0,.int .i64 0] 123)).cell? ⟨g,k*3+j,none⟩=some v):=fun j v hv=>by
  match j,hv with
  | 0,hv=>cases hv;exact q0
  | 1,hv=>cases hv;exact q1
  | 2,hv=>cases hv;exact q2
  | j+3,hv=>simp at hv
 unfold enV at hR;generalize eAt t.ents k=en at*;generalize t.ents.length=len at*;clear hb q0 q1 q2;go_in;go_wp2_with fail;refine hn.mono ?_;rintro e _ ⟨rfl,rfl⟩;clear hn;generalize hrb:w.heap.size=rb at*;have HRB:=aA hrb;clear hrb;generalize w.alloc (.cells #[.int .i64 0,.int .i64 0,.int .i64 0] 123)=w1 at*;go_wp2_with (refine eG rfl 123 _ rfl g (k*3) rfl [.int .i64 en.kind,.int .i64 en.tgt,.int .i64 en.tag] _ Tryz.underlying123 rfl aHM HQ.out ?_);refine bodyPost_ret (yM (((HRW.out.set 0 _).set 1 _).set 2 _) rfl _ rfl) rfl ?_;refine hR.out _ _ ⟨rfl,?_⟩;exact ((HO.out.set (.inr (by show _<=rb;rw [HRB.out];exact Nat.le_refl _)) _).set (.inr (by show _<=rb;rw [HRB.out];exact Nat.le_refl _)) _).set (.inr (by show _<=rb;rw [HRB.out];exact Nat.le_refl _)) _
end
end Go.Proofs.YthflghdaejbdkaaGreat
