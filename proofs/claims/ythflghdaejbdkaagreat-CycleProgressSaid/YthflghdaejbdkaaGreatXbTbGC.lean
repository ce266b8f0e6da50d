/- Lemmas of this claim. -/
import Derived.Deep.DeepFit
import Derived.Test.YthflghdaejbdkaaGreatXbTbPD
import Derived.Test.YthflghdaejbdkaaGreatXbCyStar
import Derived.Deep.RegionLaw
import Derived.Deep.AppendLies
import Derived.Test.YthflghdaejbdkaaGreatXbOFam
namespace Go.Proofs.YthflghdaejbdkaaGreat
open _root_.Go.Proofs.Tryz (prog)
open Go.RowKit Go.Maps
set_option maxHeartbeats 6400000
set_option maxRecDepth 100000
set_option linter.unusedVariables false
def TbF (b:Nat) (ev qv:Value) (mo:Option Nat) (t:Tb) (kk:Nat):Asn:=
 ⟨fun w S=>mZ w b ev qv mo t kk/\∀ k,S k↔(k=b\/ev.ownBlock=some k\/qv.ownBlock=some k\/mo=some k),
  fun {w w' S T} h d hd=>by
   obtain ⟨h,y⟩:=h;exact ⟨⟨h.row.imp fun U x=>d.row x (fun x=>hd b x ((y b).2 (.inl rfl))),h.ents.dB d (fun k z x=>hd k x ((y k).2 (.inr (.inl z)))),h.q.dB d (fun k z x=>hd k x ((y k).2 (.inr (.inr (.inl z))))),
   fun mb e=>by
    obtain ⟨n,f,h1,h2⟩:=h.fnd mb e;exact ⟨n,f,h1.only d (fun x=>hd mb x ((y mb).2 (.inr (.inr (.inr e))))),h2⟩,h.two,h.n1,h.n2,h.n3⟩,y⟩,
  fun {w S k} h z=>(TbA b t kk).lt (S:=S) ⟨ev,qv,mo,h.1,h.2⟩ z⟩
abbrev PT (l:List Asn) (i j k hb p b:Nat) (m:Mk) (t:Tb):List Asn:=PL l i j k hb p b m t t.ents.length
section
variable {l:List Asn} {i j k hb p b:Nat} {m:Mk} {t:Tb} {kk:Nat} {w0 w w':World}
theorem PL.fixed (h:Three l i j k) (hf:Fam w0 w (PL l i j k hb p b m t kk)) {y d:Value} {z:Option Nat} (ht:mZ w b y d z t kk):Fam w0 w (ML (l.set k (TbF b y d z t kk)) i j hb p m):=by
 have e:ML (l.set k (TbF b y d z t kk)) i j hb p m=(PL l i j k hb p b m t kk).set k (TbF b y d z t kk):=by
  unfold PL ML;rw [List.set_comm _ _ (Ne.symm h.kj),List.set_comm _ _ (Ne.symm h.ki),List.set_set]
 rw [e];refine hf.turn k (PL.self h) fun S hS=>?_;obtain ⟨h1,h3,h2,h0,hS⟩:=hS;obtain ⟨rfl,rfl,rfl⟩:=ht.same h0;exact ⟨S,⟨ht,hS⟩,fun k hk=>.inl hk,aI.refl _ _⟩
theorem PL.aRK (h:Three l i j k) {y d:Value} {z:Option Nat} (hf:Fam w0 w (ML (l.set k (TbF b y d z t kk)) i j hb p m)):mZ w b y d z t kk/\Fam w0 w (PL l i j k hb p b m t kk):=by
 have hs:(ML (l.set k (TbF b y d z t kk)) i j hb p m)[k]?=some (TbF b y d z t kk):=by
  unfold ML;rw [List.getElem?_set_ne (Ne.symm h.kj),List.getElem?_set_ne (Ne.symm h.ki),List.getElem?_set_self h.hk]
 have e:PL l i j k hb p b m t kk=(ML (l.set k (TbF b y d z t kk)) i j hb p m).set k (TbA b t kk):=by
  unfold PL ML;rw [List.set_comm _ _ (Ne.symm h.kj),List.set_comm _ _ (Ne.symm h.ki),List.set_set]
 obtain ⟨S,⟨h1,_⟩,_⟩:=hf.get k hs;refine ⟨h1,?_⟩;rw [e];exact hf.turn k hs fun S hS=>⟨S,⟨y,d,z,hS.1,hS.2⟩,fun k hk=>.inl hk,aI.refl _ _⟩
theorem PL.aCI (h:Three l i j k) (hf:Fam w0 w (PL l i j k hb p b m t kk)) (z:Nat) (hp:z≠2) (d:Nat):Fam w0 (((w.setCell ⟨b,3,none⟩ (.int .i64 (z:Int))).setCell ⟨b,4,none⟩ (.int .i64 0)).setCell ⟨b,5,none⟩ (.map none)) (PL l i j k hb p b m (t.at z 0) d):=by
 obtain ⟨ev,qv,mo,y⟩:=PL.tb h hf;have ho:Only [b] w (((w.setCell ⟨b,3,none⟩ (.int .i64 (z:Int))).setCell ⟨b,4,none⟩ (.int .i64 0)).setCell ⟨b,5,none⟩ (.map none)):=(((Only.refl _ w).set (.inl (by simp)) _).set (.inl (by simp)) _).set (.inl (by simp)) _;obtain ⟨h1,h2,h3⟩:=y.rest ho;refine PL.tbT h hf y ev qv none _ _ ⟨y.row.imp fun U x=>((x.set 3 _).set 4 _).set 5 _,h1,h2,fun mb e=>by (cases e),fun e=>absurd e hp,fun g hg=>⟨(y.n1 g hg).1,by simp,(y.n1 g hg).2.2⟩,fun g hg=>⟨(y.n2 g hg).1,by simp⟩,by simp⟩ (fun x hx=>?_) (ho.toP (fun x hx=>.inl (.inl (by simpa using hx))));rcases hx with hx|hx|hx|hx
 ·exact .inl (.inl hx)
 ·exact .inl (.inr (.inl hx))
 ·exact .inl (.inr (.inr (.inl hx)))
 cases hx
theorem PL.aCG (h:Three l i j k) (hf:Fam w0 w (PL l i j k hb p b m t kk)) {g n c:Nat} {qv:Value} {mo:Option Nat} (d:mZ w b (.slice (some ⟨g,0,none⟩) n c) qv mo t kk) {x:Nat} (hx:x<t.ents.length):mZ (w.setCell ⟨g,x*3+1,none⟩ (.int .i64 0)) b (.slice (some ⟨g,0,none⟩) n c) qv mo ⟨t.ents.set x (eAt t.ents x).off,t.q,t.ph,t.nx,t.fd⟩ kk/\Fam w0 (w.setCell ⟨g,x*3+1,none⟩ (.int .i64 0)) (PL l i j k hb p b m ⟨t.ents.set x (eAt t.ents x).off,t.q,t.ph,t.nx,t.fd⟩ kk):=by
 have hn:=d.n1 g rfl;have ho:Only [g] w (w.setCell ⟨g,x*3+1,none⟩ (.int .i64 0)):=(Only.refl _ w).set (.inl (by simp)) _;have hT:mZ (w.setCell ⟨g,x*3+1,none⟩ (.int .i64 0)) b (.slice (some ⟨g,0,none⟩) n c) qv mo ⟨t.ents.set x (eAt t.ents x).off,t.q,t.ph,t.nx,t.fd⟩ kk:=
  ⟨d.row.imp fun U y=>ho.row y (by simpa using Ne.symm hn.1),d.ents.put hx 0 rfl,d.q.only ho (fun z hz e=>hn.2.2 (by simp at e;rw [<-e];exact hz)),fun mb e=>by
   obtain ⟨n,f,h1,h2⟩:=d.fnd mb e;exact ⟨n,f,h1.only (ho.toP (S:=fun x=>x=g) (fun x hx=>.inl (by simpa using hx))) (fun e2=>hn.2.1 (by rw [<-e2];exact e)),h2⟩,d.two,d.n1,d.n2,d.n3⟩
 exact ⟨hT,PL.tbT h hf d _ qv mo _ _ hT (fun x hx=>.inl hx) (ho.toP (fun x hx=>.inl (.inr (.inl (by simp at hx;rw [hx];rfl)))))⟩
theorem PL.aNM (h:Three l i j k) (hf:Fam w0 w (PL l i j k hb p b m t kk)) {ev qv:Value} {mo:Option Nat} (y:mZ w b ev qv mo t kk) {z:World} {d:Value} {q':List Int} (he:aN z 0 d q') (ho:Only qv.ownBlock.toList w z) (h3:∀ g,d.ownBlock=some g->qv.ownBlock=some g\/w.heap.size<=g) :
  z.cell? ⟨b,2,none⟩=some qv/\z.frozen? ⟨b,2,none⟩=false/\mZ (z.setCell ⟨b,2,none⟩ d) b ev d mo ⟨t.ents,q',t.ph,t.nx,t.fd⟩ kk/\Fam w0 (z.setCell ⟨b,2,none⟩ d) (PL l i j k hb p b m ⟨t.ents,q',t.ph,t.nx,t.fd⟩ kk):=by
 have h5:b<w.heap.size:=by obtain ⟨U,hr⟩:=y.row;exact hr.lt
 have h4:∃ U,Row z b U [.bool true,ev,qv,.int .i64 (t.ph:Int),.int .i64 (t.nx:Int),.map mo]:=y.row.imp fun U x=>ho.row x (fun hm=>(y.n2 b (jM hm)).1 rfl);have hP:aI (fun x=>x=b\/qv.ownBlock=some x) w (z.setCell ⟨b,2,none⟩ d):=((ho.toP (S:=fun x=>x=b\/qv.ownBlock=some x) (fun x hx=>.inl (.inr (jM hx))))).set (.inl (.inl rfl)) _;have hs:Only [b] z (z.setCell ⟨b,2,none⟩ d):=(Only.refl _ z).set (.inl (by simp)) _;have h0:∀ g,d.ownBlock=some g->g≠b/\mo≠some g/\ev.ownBlock≠some g:=fun g hg=>by
  rcases h3 g hg with h|h2
  ·exact ⟨(y.n2 g h).1,(y.n2 g h).2,fun e=>(y.n1 g e).2.2 h⟩
  refine ⟨by omega,fun e=>?_,fun e=>?_⟩
  ·obtain ⟨n,f,h1,_⟩:=y.fnd _ e;have:=h1.lt;omega
  have:=(y.ents.own _ e).2;omega
 obtain ⟨U,hr⟩:=h4;have hT:mZ (z.setCell ⟨b,2,none⟩ d) b ev d mo ⟨t.ents,q',t.ph,t.nx,t.fd⟩ kk:=by
  refine ⟨⟨U,hr.set 2 _⟩,y.ents.dB hP (fun x hx=>?_),he.only hs (fun x hx=>by have:=(h0 x hx).1;simpa using this),fun mb e=>?_,y.two,fun g hg=>⟨(y.n1 g hg).1,(y.n1 g hg).2.1,fun e=>(h0 g e).2.2 hg⟩,fun g hg=>⟨(h0 g hg).1,(h0 g hg).2.1⟩,y.n3⟩
  ·rintro (h|h)
   ·exact (y.n1 x hx).1 h
   exact (y.n1 x hx).2.2 h
  obtain ⟨n,f,h1,h2⟩:=y.fnd mb e;refine ⟨n,f,h1.only hP ?_,h2⟩;rintro (h|h)
  ·exact y.n3 (by rw [<-h];exact e)
  exact (y.n2 mb h).2 e
 refine ⟨hr.cell 2 rfl,hr.free 2,hT,PL.tbT h hf y ev d mo _ _ hT (fun x hx=>?_) (hP.mono (fun x hx=>.inl ?_))⟩
 ·rcases hx with hx|hx|hx|hx
  ·exact .inl (.inl hx)
  ·exact .inl (.inr (.inl hx))
  ·rcases h3 x hx with h|h
   ·exact .inl (.inr (.inr (.inl h)))
   exact .inr h
  exact .inl (.inr (.inr (.inr hx)))
 rcases hx with hx|hx
 ·exact .inl hx
 exact .inr (.inr (.inl hx))
theorem Tb.Good.run (h:t.Good m) (d:m.M.Ok) (y:1<=t.ph):t.Run:=⟨h.b.le,y,h.p4,h.nl,fun i z=>h.b.tg d z,h.z3⟩
theorem gJ (w:World) (d:Three l i j k) (hf:Fam w0 w (PL l i j k hb p b m t kk)) (z:t.ph=2->kk=t.ents.length) (hg:t.Good m) (y:1<=t.ph):Calls prog 75 #[.pointer (some ⟨b,0,none⟩),.pointer (some ⟨p,0,none⟩)] w (fun e w'=>e=.returned (.tuple #[])/\Fam w0 w' (PT l i j k hb p b m (t.settle m))):=by
 have h:=aEq w d hf z (hg.run (ML.ph d.t2 hf).1 y);refine h.mono fun e w1 ⟨y,h2⟩=>⟨y,?_⟩;show Fam w0 w1 (PL l i j k hb p b m (t.settle m) (t.settle m).ents.length);rw [Tb.gV.1];exact h2
theorem aGD (w:World) (T3:Three l i j k) (y:Fam w0 w (PT l i j k hb p b m t)) (hg:t.Good m):Calls prog 20 #[.pointer (some ⟨b,0,none⟩),.pointer (some ⟨p,0,none⟩)] w (fun e w'=>e=.returned (.int .i64 (t.begin m).1)/\Fam w0 w' (PT l i j k hb p b m (t.begin m).2)):=by
 refine aF fun R z=>?_;obtain ⟨ev,qv,mo,ht⟩:=PL.tb T3 y;obtain ⟨z0,z1,z2,z3,z4,z5,zf⟩:=ht.cells;have hn:=eG w z0;have ch:=jK w T3.t2 y;have cd:=yZ w T3.t2 y;have HF:=aA y;have HG:=aA hg;unfold Tb.begin at z
 by_cases d:t.ph=0
 rotate_left
 ·rw [if_pos (.inl d)] at z;have h2:(0:Int)<(t.ph:Int):=by omega
  clear y hg ht z1 z2 z4 z5 zf d cd;generalize t.ph=ph at*;go_in;go_wp2_with fail;go_fit hn;rintro e _ ⟨rfl,rfl⟩;go_wp2_with fail;go_fit ch;rintro e _ ⟨rfl,rfl⟩;go_wp2;exact z.o _ _ ⟨rfl,HF.o⟩
 by_cases hl:m.list=[]
 rotate_left
 ·rw [if_pos (.inr hl)] at z;rw [decide_eq_false hl] at cd;rw [d] at z3;replace z3:w.cell? ⟨b,3,none⟩=some (.int .i64 0):=z3;clear y hg ht z1 z2 z4 z5 zf d hl;go_in;go_wp2_with fail;go_fit hn;rintro e _ ⟨rfl,rfl⟩;go_wp2_with fail;go_fit ch;rintro e _ ⟨rfl,rfl⟩;go_wp2_with fail;go_fit cd;rintro e _ ⟨rfl,rfl⟩;go_wp2;exact z.o _ _ ⟨rfl,HF.o⟩
 rw [if_neg (fun h=>h.elim (fun h=>h d) (fun h=>h hl))] at z;rw [decide_eq_true hl] at cd;have hP:Fam w0 (((w.setCell ⟨b,3,none⟩ (.int .i64 1)).setCell ⟨b,4,none⟩ (.int .i64 0)).setCell ⟨b,5,none⟩ (.map none)) (PL l i j k hb p b m (t.at 1 0) t.ents.length):=PL.aCI T3 y 1 (by omega) _;have h0:(t.at 1 0).Good m:=⟨hg.b.at _ _,by show 1<=4;omega,Nat.zero_le _,fun e=>by simp [Tb.at] at e,fun e=>by simp [Tb.at] at e⟩;have cs:=gJ _ T3 hP (fun e=>by simp [Tb.at] at e) h0 (Nat.le_refl 1);have f3:=zf 3;have f4:=zf 4;have f5:=zf 5;rw [d] at z3;replace z3:w.cell? ⟨b,3,none⟩=some (.int .i64 0):=z3;clear y hg ht z1 z2 hP h0 zf d hl;go_in;go_wp2_with fail;go_fit hn;rintro e _ ⟨rfl,rfl⟩;go_wp2_with fail;go_fit ch;rintro e _ ⟨rfl,rfl⟩;go_wp2_with fail;go_fit cd;rintro e _ ⟨rfl,rfl⟩;go_wp2_with fail;go_fit cs;rintro e w1 ⟨rfl,y⟩;have h1:=aA y;clear y cs cd ch hn;go_wp2;exact z.o _ _ ⟨rfl,h1.o⟩
theorem aOh (w:World) (T3:Three l i j k) (y:Fam w0 w (PT l i j k hb p b m t)) (hg:t.Good m) (hm:m.Ok) (d:t.ph=0):Calls prog 68 #[.pointer (some ⟨b,0,none⟩),.pointer (some ⟨p,0,none⟩)] w (fun e w'=>e=.returned (.tuple #[.int .i64 (t.step m).1,.int .i64 (t.step m).2.1,.int .i64 (t.step m).2.2.1])/\Fam w0 w' (PT l i j k hb p b (t.step m).2.2.2.2 (t.step m).2.2.2.1)):=by
 refine aF fun R z=>?_;obtain ⟨ev,qv,mo,ht⟩:=PL.tb T3 y;obtain ⟨z0,z1,z2,z3,z4,z5,zf⟩:=ht.cells;have hn:=eG w z0;have ch:=jK w T3.t2 y;have HF:=aA y;unfold Tb.step at z;rw [if_pos d] at z;rw [d] at z3;replace z3:w.cell? ⟨b,3,none⟩=some (.int .i64 0):=z3;clear y hg hm ht z1 z2 z4 z5 zf d;go_in;go_wp2_with fail;go_fit hn;rintro e _ ⟨rfl,rfl⟩;go_wp2_with fail;go_fit ch;rintro e _ ⟨rfl,rfl⟩;go_wp2;refine bodyPost_ret (results_tmp3 rfl _ _ _) rfl ?_;exact z.o _ _ ⟨rfl,HF.o⟩
theorem aOg (w:World) (z:Three l i j k) (y:Fam w0 w (PT l i j k hb p b m t)) (hg:t.Good m) (hm:m.Ok) (hp:t.ph≠0) (h3:(t.settle m).ph=3):Calls prog 68 #[.pointer (some ⟨b,0,none⟩),.pointer (some ⟨p,0,none⟩)] w (fun e w'=>e=.returned (.tuple #[.int .i64 (t.step m).1,.int .i64 (t.step m).2.1,.int .i64 (t.step m).2.2.1])/\Fam w0 w' (PT l i j k hb p b (t.step m).2.2.2.2 (t.step m).2.2.2.1)):=by
 refine aF fun R hR=>?_;obtain ⟨ev,qv,mo,ht⟩:=PL.tb z y;obtain ⟨z0,z1,z2,d,z4,z5,zf⟩:=ht.cells;have hn:=eG w z0;have ch:=jK w z.t2 y;have cs:=gJ w z y (fun _=>rfl) hg (by omega);have h6:((t.ph:Int) == 0)=false:=by rw [beq_eq_false_iff_ne];omega
 have HK:=aA hm.hf.ok;have HM:=aA hm;have h2:=hg.settle (m:=m) hm.hf.ok;have h4:=Tb.dA (m:=m) (t:=t) (by omega) hg.p4;unfold Tb.step at hR;rw [if_neg hp] at hR;simp only at hR;clear y hg hm ht z1 z2 z4 z5 zf hp;generalize t.settle m=s at*;have h5:=aA h2;have h7:=aA h4;clear h2 h4;rw [if_pos h3] at hR;have H3:=aA h3;clear h3;generalize t.ph=ph at*;go_in;go_wp2_with fail;go_fit hn;rintro e _ ⟨rfl,rfl⟩;go_wp2_with fail;go_fit ch;rintro e _ ⟨rfl,rfl⟩;go_wp2_with fail;go_fit cs;rintro e w1 ⟨rfl,y⟩;clear cs ch hn h6 z0 d;obtain ⟨ev,qv,mo,ht⟩:=PL.tb z y;obtain ⟨z0,z1,z2,d,z4,z5,zf⟩:=ht.cells;rw [H3.o] at d;replace d:w1.cell? ⟨b,3,none⟩=some (.int .i64 3):=d;have HF:=aA y;clear y ht zf z0 z1 z2 z5;generalize s.nx=nx at z4;go_wp2;go_quiet (fail);have h0:=HF.o.drewN nq;clear HF d z4;generalize w1.drewN nq=w2 at*;have cm:=aDg w2 z.t2 h0 HM.o;clear h0;go_wp2_with fail;go_fit cm;rintro e w3 ⟨rfl,y⟩;have hM:=Mk.nM (m:=m);have h1:s.Good m.step.2.2:=h5.o.marker (fun k hk=>by rw [hM];exact hk);have cs:=gJ w3 z y (fun _=>rfl) h1 (by have:=H3.o;omega);clear y hM h1 cm;generalize m.step=r at*;obtain ⟨r1,r2,r3⟩:=r;go_wp2_with fail;go_fit cs;rintro e w4 ⟨rfl,y⟩;have HF:=aA y;clear y cs;go_wp2;refine bodyPost_ret (results_tmp3 rfl _ _ _) rfl ?_;exact hR.o _ _ ⟨rfl,HF.o⟩
theorem aGC (w:World) (T3:Three l i j k) (d:Fam w0 w (PT l i j k hb p b m t)) (hg:t.Good m) (hm:m.Ok) (hp:t.ph≠0) (h3:(t.settle m).ph≠3) (hl:(t.settle m).ents.length<=(t.settle m).nx):Calls prog 68 #[.pointer (some ⟨b,0,none⟩),.pointer (some ⟨p,0,none⟩)] w (fun e w'=>e=.returned (.tuple #[.int .i64 (t.step m).1,.int .i64 (t.step m).2.1,.int .i64 (t.step m).2.2.1])/\Fam w0 w' (PT l i j k hb p b (t.step m).2.2.2.2 (t.step m).2.2.2.1)):=by
 refine aF fun R hR=>?_;obtain ⟨ev,qv,mo,ht⟩:=PL.tb T3 d;obtain ⟨z0,z1,z2,z3,z4,z5,zf⟩:=ht.cells;have hn:=eG w z0;have ch:=jK w T3.t2 d;have cs:=gJ w T3 d (fun _=>rfl) hg (by omega);have h7:((t.ph:Int) == 0)=false:=by rw [beq_eq_false_iff_ne];omega
 have HK:=aA hm.hf.ok;have HM:=aA hm;have h1:=hg.settle (m:=m) hm.hf.ok;have h5:=Tb.dA (m:=m) (t:=t) (by omega) hg.p4;unfold Tb.step at hR;rw [if_neg hp] at hR;simp only at hR;clear d hg hm ht z1 z2 z4 z5 zf hp;generalize t.settle m=s at*;have h9:=aA h1;have x1:=aA h5;clear h1 h5;rw [if_neg h3,if_pos hl] at hR;have H3:=aA h3;have HL:=aA hl;clear h3 hl;generalize t.ph=ph at*;go_in;go_wp2_with fail;go_fit hn;rintro e _ ⟨rfl,rfl⟩;go_wp2_with fail;go_fit ch;rintro e _ ⟨rfl,rfl⟩;go_wp2_with fail;go_fit cs;rintro e y ⟨rfl,d⟩;clear cs ch hn h7 z0 z3;obtain ⟨ev,qv,mo,ht⟩:=PL.tb T3 d;obtain ⟨z0,z1,z2,z3,z4,z5,zf⟩:=ht.cells;have x2:((s.ph:Int) == 3)=false:=by rw [beq_eq_false_iff_ne];have:=H3.o;omega
 have h2:(s.ents.length:Int)<=(s.nx:Int):=by have:=HL.o;omega
 have HP:Hid (∀ n,Fam w0 ((((y.drewN n).setCell ⟨b,3,none⟩ (.int .i64 0)).setCell ⟨b,4,none⟩ (.int .i64 0)).setCell ⟨b,5,none⟩ (.map none)) (PT l i j k hb p b m (s.at 0 0))):=fun n=>PL.aCI T3 (d.drewN n) 0 (by omega) _;have f3:=zf 3;have f4:=zf 4;have f5:=zf 5;obtain ⟨a,c,rfl⟩:=ht.ents.len;clear d ht zf z0 z2;generalize s.ph=sp at*;obtain ⟨nx,h4⟩:∃ z,z=s.nx:=⟨_,rfl⟩;rw [<-h4] at z4 h2;obtain ⟨h8,h0⟩:∃ z,z=s.ents.length:=⟨_,rfl⟩;rw [<-h0] at z1 h2;clear h4 h0;go_wp2;go_quiet (fail);have h6:=aA (HP.o nq);have y1:(y.drewN nq).cell? ⟨b,1,none⟩=some (.slice a h8 c):=z1;have y3:(y.drewN nq).cell? ⟨b,3,none⟩=some (.int .i64 (sp:Int)):=z3;have y4:(y.drewN nq).cell? ⟨b,4,none⟩=some (.int .i64 (nx:Int)):=z4;have y5:(y.drewN nq).cell? ⟨b,5,none⟩=some (.map mo):=z5;have g3:(y.drewN nq).frozen? ⟨b,3,none⟩=false:=f3;have g4:(y.drewN nq).frozen? ⟨b,4,none⟩=false:=f4;have g5:(y.drewN nq).frozen? ⟨b,5,none⟩=false:=f5;clear HP z1 z3 z4 z5 f3 f4 f5;generalize y.drewN nq=w2 at*;go_wp2;refine bodyPost_ret (results_tmp3 rfl _ _ _) rfl ?_;exact hR.o _ _ ⟨rfl,h6.o⟩
theorem aLH (w:World) (y:Three l i j k) (hf:Fam w0 w (PT l i j k hb p b m t)) (hg:t.Good m) (hm:m.Ok) (hp:t.ph≠0) (h3:(t.settle m).ph≠3) (hl:¬ (t.settle m).ents.length<=(t.settle m).nx) (h2:(t.settle m).ph≠2) (hw:m.isW (eAt (t.settle m).ents (t.settle m).nx).tgt=true):Calls prog 68 #[.pointer (some ⟨b,0,none⟩),.pointer (some ⟨p,0,none⟩)] w (fun e w'=>e=.returned (.tuple #[.int .i64 (t.step m).1,.int .i64 (t.step m).2.1,.int .i64 (t.step m).2.2.1])/\Fam w0 w' (PT l i j k hb p b (t.step m).2.2.2.2 (t.step m).2.2.2.1)):=by
 refine aF fun R hR=>?_;obtain ⟨ev,qv,mo,ht⟩:=PL.tb y hf;obtain ⟨z0,z1,z2,z3,z4,z5,zf⟩:=ht.cells;have hn:=eG w z0;have ch:=jK w y.t2 hf;have cs:=gJ w y hf (fun _=>rfl) hg (by omega);have y7:((t.ph:Int) == 0)=false:=by rw [beq_eq_false_iff_ne];omega
 have HK:=aA hm.hf.ok;have HM:=aA hm;have x5:=hg.settle (m:=m) hm.hf.ok;have x7:=Tb.dA (m:=m) (t:=t) (by omega) hg.p4;unfold Tb.step at hR;rw [if_neg hp] at hR;simp only at hR;clear hf hg hm ht z1 z2 z4 z5 zf hp;generalize t.settle m=s at*;have d:=aA x5;have h1:=aA x7;clear x5 x7;rw [if_neg h3,if_neg hl] at hR;have H3:=aA h3;have HL:=aA hl;have x1:Hid (s.clear m s.nx=(⟨s.ents.set s.nx (eAt s.ents s.nx).off,s.q,s.ph,s.nx,s.fd⟩,m)):=by show _=_;unfold Tb.clear;simp only;rw [if_neg h2,if_pos hw]
 have H2:=aA h2;have HW:=aA hw;clear h3 hl h2 hw;generalize t.ph=ph at*;go_in;go_wp2_with fail;go_fit hn;rintro e _ ⟨rfl,rfl⟩;go_wp2_with fail;go_fit ch;rintro e _ ⟨rfl,rfl⟩;go_wp2_with fail;go_fit cs;rintro e w1 ⟨rfl,hf⟩;clear cs ch hn y7 z0 z3;obtain ⟨ev,qv,mo,ht⟩:=PL.tb y hf;obtain ⟨z0,z1,z2,z3,z4,z5,zf⟩:=ht.cells;have hi:s.nx<s.ents.length:=by have:=HL.o;omega
 have y6:((s.ph:Int) == 3)=false:=by rw [beq_eq_false_iff_ne];have:=H3.o;omega
 have z7:(s.nx:Int)<(s.ents.length:Int):=by omega
 have z8:¬ ((s.ents.length:Int)<=(s.nx:Int)):=by omega
 have z6:(0:Int)<=(s.nx:Int):=by omega
 have y9:s.nx<20:=by have:=d.o.b.le;omega
 have h9:=aA (Tb.Good.clear d.o h1.o hi H3.o HM.o);rw [x1.o] at hR h9;have HI:=aA hi;have y3:Hid (wfI (eAt s.ents s.nx).tgt):=dI (by have:=d.o.b.tg HK.o hi;omega);have y1:=aA h1.o.p1;obtain ⟨g,cap,rfl,x4,_,c0,c1,c2,cf⟩:=ht.ents.at hi;have HF:=aA hf;have HT:=aA ht;clear hf ht zf z0 z1 z2 z5 c0 c1 c2 cf x4 hi d h1 H3 HL x1;have y5:((s.ph:Int) == 2)=false:=by rw [beq_eq_false_iff_ne];have:=H2.o;omega
 obtain ⟨sp,h6⟩:∃ z,z=s.ph:=⟨_,rfl⟩;rw [<-h6] at z3 y6 y5;have y2:=aA h6;clear h6;go_wp2;go_quiet (fail);have h4:=HF.o.drewN nq;have h0:=HT.o.aK ((Only.refl [] w1).drewN nq);clear HF HT z3 z4;generalize w1.drewN nq=w2 at*;obtain ⟨z0,z1,z2,z3,z4,z5,zf⟩:=h0.cells;obtain ⟨g2,x8,hv,x4,_,c0,c1,c2,cf⟩:=h0.ents.at HI.o;simp only [Value.slice.injEq,Option.some.injEq,Addr.mk.injEq,and_true,true_and] at hv;obtain ⟨rfl,rfl⟩:=hv;have cw:=qI w2 y.t2 h4 (eAt s.ents s.nx).tgt y3.o;rw [HW.o] at cw;have HF:=aA h4;have HT:=aA h0;clear h4 h0 z0 z2 z5 c0 c2 z3 z4 zf cf;go_wp2_with fail;go_fit cw;rintro e _ ⟨rfl,n9,rfl⟩;have x2:=HF.o.drewN n9;have h7:=HT.o.aK ((Only.refl [] w2).drewN n9);clear HF HT cw z1 c1;generalize w2.drewN n9=w3 at*;obtain ⟨y8,h5⟩:=PL.aCG y x2 h7 HI.o;obtain ⟨g2,x8,hv,_,_,_,c1,_,cf⟩:=h7.ents.at HI.o;simp only [Value.slice.injEq,Option.some.injEq,Addr.mk.injEq,and_true,true_and] at hv;obtain ⟨rfl,rfl⟩:=hv;have f1:=cf (s.nx*3+1);have y0:Hid (s.ents.length=(s.ents.set s.nx (eAt s.ents s.nx).off).length):=by show _=_;rw [List.length_set]
 clear x2 h7 cf y8;have x6:=PL.aCH y h5 (s.nx+1);have cs:=gJ _ y x6 (fun _=>y0.o) h9.o y1.o;have e1:((s.nx+1:Nat):Int)=(s.nx:Int)+1:=by omega
 rw [e1] at cs;obtain ⟨_,_,_,h8⟩:=PL.tb y h5;have y4:(w3.setCell ⟨g,s.nx*3+1,none⟩ (.int .i64 0)).cell? ⟨b,4,none⟩=some (.int .i64 (s.nx:Int)):=h8.cells.2.2.2.2.1;have g4:=h8.cells.2.2.2.2.2.2 4;clear x6 h8 e1 h5;generalize s.nx=nx at*;generalize s.ents.length=z9 at*;go_wp2_with fail;go_fit cs;rintro e w6 ⟨rfl,x3⟩;have x9:=aA x3;clear cs x3;go_wp2;refine bodyPost_ret (results_tmp3 rfl _ _ _) rfl ?_;rw [y2.o];exact hR.o _ _ ⟨rfl,x9.o⟩
theorem aLI (w:World) (T3:Three l i j k) (hf:Fam w0 w (PT l i j k hb p b m t)) (hg:t.Good m) (hm:m.Ok) (hp:t.ph≠0) (h3:(t.settle m).ph≠3) (hl:¬ (t.settle m).ents.length<=(t.settle m).nx) (h2:(t.settle m).ph≠2) (hw:m.isW (eAt (t.settle m).ents (t.settle m).nx).tgt=false):Calls prog 68 #[.pointer (some ⟨b,0,none⟩),.pointer (some ⟨p,0,none⟩)] w (fun e w'=>e=.returned (.tuple #[.int .i64 (t.step m).1,.int .i64 (t.step m).2.1,.int .i64 (t.step m).2.2.1])/\Fam w0 w' (PT l i j k hb p b (t.step m).2.2.2.2 (t.step m).2.2.2.1)):=by
 refine aF fun R hR=>?_;obtain ⟨ev,qv,mo,ht⟩:=PL.tb T3 hf;obtain ⟨z0,z1,z2,z3,z4,z5,zf⟩:=ht.cells;have hn:=eG w z0;have ch:=jK w T3.t2 hf;have cs:=gJ w T3 hf (fun _=>rfl) hg (by omega);have y2:((t.ph:Int) == 0)=false:=by rw [beq_eq_false_iff_ne];omega
 have HK:=aA hm.hf.ok;have HM:=aA hm;have x2:=hg.settle (m:=m) hm.hf.ok;have x4:=Tb.dA (m:=m) (t:=t) (by omega) hg.p4;unfold Tb.step at hR;rw [if_neg hp] at hR;simp only at hR;clear hf hg hm ht z1 z2 z4 z5 zf hp;generalize t.settle m=s at*;have y:=aA x2;have h0:=aA x4;clear x2 x4;rw [if_neg h3,if_neg hl] at hR;have H3:=aA h3;have HL:=aA hl;have h8:Hid (s.clear m s.nx=(s,m)):=by show _=_;unfold Tb.clear;simp only;rw [if_neg h2,if_neg (by rw [hw];simp)]
 have H2:=aA h2;have HW:=aA hw;clear h3 hl h2 hw;generalize t.ph=ph at*;go_in;go_wp2_with fail;go_fit hn;rintro e _ ⟨rfl,rfl⟩;go_wp2_with fail;go_fit ch;rintro e _ ⟨rfl,rfl⟩;go_wp2_with fail;go_fit cs;rintro e w1 ⟨rfl,hf⟩;clear cs ch hn y2 z0 z3;obtain ⟨ev,qv,mo,ht⟩:=PL.tb T3 hf;obtain ⟨z0,z1,z2,z3,z4,z5,zf⟩:=ht.cells;have hi:s.nx<s.ents.length:=by have:=HL.o;omega
 have y1:((s.ph:Int) == 3)=false:=by rw [beq_eq_false_iff_ne];have:=H3.o;omega
 have y8:(s.nx:Int)<(s.ents.length:Int):=by omega
 have y9:¬ ((s.ents.length:Int)<=(s.nx:Int)):=by omega
 have y7:(0:Int)<=(s.nx:Int):=by omega
 have y6:s.nx<20:=by have:=y.o.b.le;omega
 have h7:=aA (Tb.Good.clear y.o h0.o hi H3.o HM.o);rw [h8.o] at hR h7;have HI:=aA hi;have x9:Hid (wfI (eAt s.ents s.nx).tgt):=dI (by have:=y.o.b.tg HK.o hi;omega);have x7:=aA h0.o.p1;obtain ⟨g,cap,rfl,x1,_,c0,c1,c2,cf⟩:=ht.ents.at hi;have HF:=aA hf;have HT:=aA ht;clear hf ht zf z0 z1 z2 z5 c0 c1 c2 cf x1 hi y h0 H3 HL h8;have y0:((s.ph:Int) == 2)=false:=by rw [beq_eq_false_iff_ne];have:=H2.o;omega
 obtain ⟨sp,h5⟩:∃ z,z=s.ph:=⟨_,rfl⟩;rw [<-h5] at z3 y1 y0;have x8:=aA h5;clear h5;go_wp2;go_quiet (fail);have h1:=HF.o.drewN nq;have d:=HT.o.aK ((Only.refl [] w1).drewN nq);clear HF HT z3 z4;generalize w1.drewN nq=w2 at*;obtain ⟨z0,z1,z2,z3,z4,z5,zf⟩:=d.cells;obtain ⟨g2,y5,hv,x1,_,c0,c1,c2,cf⟩:=d.ents.at HI.o;simp only [Value.slice.injEq,Option.some.injEq,Addr.mk.injEq,and_true,true_and] at hv;obtain ⟨rfl,rfl⟩:=hv;have cw:=qI w2 T3.t2 h1 (eAt s.ents s.nx).tgt x9.o;rw [HW.o] at cw;have HF:=aA h1;have HT:=aA d;clear h1 d z0 z2 z5 c0 c2 z3 z4 zf cf;go_wp2_with fail;go_fit cw;rintro e _ ⟨rfl,n9,rfl⟩;have h4:=HF.o.drewN n9;have y3:=HT.o.aK ((Only.refl [] w2).drewN n9);clear HF HT cw z1 c1;generalize w2.drewN n9=w3 at*;have x6:Hid (s.ents.length=s.ents.length):=rfl;clear y3;have x3:=PL.aCH T3 h4 (s.nx+1);have cs:=gJ _ T3 x3 (fun _=>x6.o) h7.o x7.o;have e1:((s.nx+1:Nat):Int)=(s.nx:Int)+1:=by omega
 rw [e1] at cs;obtain ⟨_,_,_,h6⟩:=PL.tb T3 h4;have y4:w3.cell? ⟨b,4,none⟩=some (.int .i64 (s.nx:Int)):=h6.cells.2.2.2.2.1;have g4:=h6.cells.2.2.2.2.2.2 4;clear x3 h6 e1 h4;generalize s.nx=nx at*;generalize s.ents.length=z6 at*;go_wp2_with fail;go_fit cs;rintro e w6 ⟨rfl,h9⟩;have x5:=aA h9;clear cs h9;go_wp2;refine bodyPost_ret (results_tmp3 rfl _ _ _) rfl ?_;rw [x8.o];exact hR.o _ _ ⟨rfl,x5.o⟩
theorem PL.queued (h:Three l i j k) (hf:Fam w0 w (PL l i j k hb p b m t kk)) {ev qv:Value} {mo:Option Nat} (ht:mZ w b ev qv mo t kk) (o:Obj) {d:World} {z cap n:Nat} {q':List Int} (hl:q'.length=n) (e:d.ownsRow 0 3 1 (.slice (some ⟨z,0,none⟩) n cap) n (q'.map (Value.int .i64))) (y:(w.alloc o).drew.grownBy d qv.ownBlock) (h0:qv.ownBlock=some z\/z=w.heap.size+1) :
  d.cell? ⟨b,2,none⟩=some qv/\d.frozen? ⟨b,2,none⟩=false/\mZ (d.setCell ⟨b,2,none⟩ (.slice (some ⟨z,0,none⟩) n cap)) b ev (.slice (some ⟨z,0,none⟩) n cap) mo ⟨t.ents,q',t.ph,t.nx,t.fd⟩ kk/\Fam w0 (d.setCell ⟨b,2,none⟩ (.slice (some ⟨z,0,none⟩) n cap)) (PL l i j k hb p b m ⟨t.ents,q',t.ph,t.nx,t.fd⟩ kk):=by
 have ho:Only [] w (w.alloc o).drew:=((Only.refl [] w).alloc o).drew;refine PL.aNM h (hf.aK ho) (ht.aK ho) (by unfold aN;rw [hl];exact e) ((Only.refl _ _).grown y (fun k hk=>.inl (by rw [hk];simp))) (fun g hg=>?_)
 cases hg
 rcases h0 with h|h
 ·exact .inl h
 refine .inr ?_;show (w.alloc o).heap.size<=_;rw [h];simp
theorem aLK (w:World) (T3:Three l i j k) (hf:Fam w0 w (PT l i j k hb p b m t)) (hg:t.Good m) (hm:m.Ok) (hp:t.ph≠0) (h3:(t.settle m).ph≠3) (hl:¬ (t.settle m).ents.length<=(t.settle m).nx) (h2:(t.settle m).ph=2) (hw:(t.settle m).fd (t.settle m).nx=false):Calls prog 68 #[.pointer (some ⟨b,0,none⟩),.pointer (some ⟨p,0,none⟩)] w (fun e w'=>e=.returned (.tuple #[.int .i64 (t.step m).1,.int .i64 (t.step m).2.1,.int .i64 (t.step m).2.2.1])/\Fam w0 w' (PT l i j k hb p b (t.step m).2.2.2.2 (t.step m).2.2.2.1)):=by
 refine aF fun R hR=>?_;obtain ⟨ev,qv,mo,ht⟩:=PL.tb T3 hf;obtain ⟨z0,z1,z2,z3,z4,z5,zf⟩:=ht.cells;have hn:=eG w z0;have ch:=jK w T3.t2 hf;have cs:=gJ w T3 hf (fun _=>rfl) hg (by omega);have y9:((t.ph:Int) == 0)=false:=by rw [beq_eq_false_iff_ne];omega
 have HK:=aA hm.hf.ok;have HM:=aA hm;have x6:=hg.settle (m:=m) hm.hf.ok;have x9:=Tb.dA (m:=m) (t:=t) (by omega) hg.p4;unfold Tb.step at hR;rw [if_neg hp] at hR;simp only at hR;clear hf hg hm ht z1 z2 z4 z5 zf hp;generalize t.settle m=s at*;have h0:=aA x6;have h1:=aA x9;clear x6 x9;rw [if_neg h3,if_neg hl] at hR;have H3:=aA h3;have HL:=aA hl;have h9:Hid (s.clear m s.nx=(s,m)):=by show _=_;unfold Tb.clear;simp only;rw [if_pos h2,if_neg (by rw [hw];simp)]
 have H2:=aA h2;have HW:=aA hw;clear h3 hl h2 hw;generalize t.ph=ph at*;go_in;go_wp2_with fail;go_fit hn;rintro e _ ⟨rfl,rfl⟩;go_wp2_with fail;go_fit ch;rintro e _ ⟨rfl,rfl⟩;go_wp2_with fail;go_fit cs;rintro e w1 ⟨rfl,hf⟩;clear cs ch hn y9 z0 z3;obtain ⟨ev,qv,mo,ht⟩:=PL.tb T3 hf;obtain ⟨z0,z1,z2,z3,z4,z5,zf⟩:=ht.cells;have hi:s.nx<s.ents.length:=by have:=HL.o;omega
 have y7:((s.ph:Int) == 3)=false:=by rw [beq_eq_false_iff_ne];have:=H3.o;omega
 have a0:(s.nx:Int)<(s.ents.length:Int):=by omega
 have a1:¬ ((s.ents.length:Int)<=(s.nx:Int)):=by omega
 have z9:(0:Int)<=(s.nx:Int):=by omega
 have z8:s.nx<20:=by have:=h0.o.b.le;omega
 have h8:=aA (Tb.Good.clear h0.o h1.o hi H3.o HM.o);rw [h9.o] at hR h8;have HI:=aA hi;have z7:Hid (wfI (eAt s.ents s.nx).tgt):=dI (by have:=h0.o.b.tg HK.o hi;omega);have y2:=aA h1.o.p1;obtain ⟨g,cap,rfl,x5,_,c0,c1,c2,cf⟩:=ht.ents.at hi;have HF:=aA hf;have HT:=aA ht;clear hf ht zf z0 z1 z2 z5 c0 c1 c2 cf x5 hi h0 h1 H3 HL h9;have y6:((s.ph:Int) == 2)=true:=by rw [H2.o];rfl
 obtain ⟨sp,h5⟩:∃ z,z=s.ph:=⟨_,rfl⟩;rw [<-h5] at z3 y7 y6;have y3:=aA h5;clear h5;go_wp2;go_quiet (fail);have x1:=HF.o.drewN nq;have d:=HT.o.aK ((Only.refl [] w1).drewN nq);clear HF HT z3 z4;generalize w1.drewN nq=w2 at*;obtain ⟨z0,z1,z2,z3,z4,z5,zf⟩:=d.cells;obtain ⟨g2,z6,hv,x5,_,c0,c1,c2,cf⟩:=d.ents.at HI.o;simp only [Value.slice.injEq,Option.some.injEq,Addr.mk.injEq,and_true,true_and] at hv;obtain ⟨rfl,rfl⟩:=hv;have h4:s.ph=2:=H2.o;have x7:mo≠none:=d.two h4 (by have:=HI.o;omega);obtain ⟨mb,rfl⟩:∃ mb,mo=some mb:=by
  cases mo with
  | none=>exact absurd rfl x7
  | some mb=>exact ⟨mb,rfl⟩
 obtain ⟨fn,ff,x3,y5,x4⟩:=d.fnd mb rfl;obtain ⟨y8,y⟩:=x4 h4;have h7:=x3.look (k:=s.nx) (by have:=HI.o;omega) (by omega);rw [y s.nx HI.o,HW.o] at h7;have y1:Hid (s.ents.length=s.ents.length):=rfl;have y:=x1;clear x1 d x7 x3 y5 x4 y8 z0 z2 zf c0 c1 c2 cf h4 z3 z4;have x8:=PL.aCH T3 y (s.nx+1);have cs:=gJ _ T3 x8 (fun _=>y1.o) h8.o y2.o;have e1:((s.nx+1:Nat):Int)=(s.nx:Int)+1:=by omega
 rw [e1] at cs;obtain ⟨_,_,_,h6⟩:=PL.tb T3 y;have y4:w2.cell? ⟨b,4,none⟩=some (.int .i64 (s.nx:Int)):=h6.cells.2.2.2.2.1;have g4:=h6.cells.2.2.2.2.2.2 4;clear x8 h6 e1 y;generalize s.nx=nx at*;generalize s.ents.length=a2 at*;go_wp2_with fail;go_fit cs;rintro e w6 ⟨rfl,x2⟩;have y0:=aA x2;clear cs x2;go_wp2;refine bodyPost_ret (results_tmp3 rfl _ _ _) rfl ?_;rw [y3.o];exact hR.o _ _ ⟨rfl,y0.o⟩
theorem aLJ (w:World) (T3:Three l i j k) (hf:Fam w0 w (PT l i j k hb p b m t)) (hg:t.Good m) (hm:m.Ok) (hp:t.ph≠0) (h3:(t.settle m).ph≠3) (hl:¬ (t.settle m).ents.length<=(t.settle m).nx) (h2:(t.settle m).ph=2) (hw:(t.settle m).fd (t.settle m).nx=true):Calls prog 68 #[.pointer (some ⟨b,0,none⟩),.pointer (some ⟨p,0,none⟩)] w (fun e w'=>e=.returned (.tuple #[.int .i64 (t.step m).1,.int .i64 (t.step m).2.1,.int .i64 (t.step m).2.2.1])/\Fam w0 w' (PT l i j k hb p b (t.step m).2.2.2.2 (t.step m).2.2.2.1)):=by
 refine aF fun R hR=>?_;obtain ⟨ev,qv,mo,ht⟩:=PL.tb T3 hf;obtain ⟨z0,z1,z2,z3,z4,z5,zf⟩:=ht.cells;have hn:=eG w z0;have ch:=jK w T3.t2 hf;have cs:=gJ w T3 hf (fun _=>rfl) hg (by omega);have b9:((t.ph:Int) == 0)=false:=by rw [beq_eq_false_iff_ne];omega
 have HK:=aA hm.hf.ok;have HM:=aA hm;have z7:=hg.settle (m:=m) hm.hf.ok;have a2:=Tb.dA (m:=m) (t:=t) (by omega) hg.p4;unfold Tb.step at hR;rw [if_neg hp] at hR;simp only at hR;clear hf hg hm ht z1 z2 z4 z5 zf hp;generalize t.settle m=s at*;have h0:=aA z7;have x1:=aA a2;clear z7 a2;rw [if_neg h3,if_neg hl] at hR;have H3:=aA h3;have HL:=aA hl;have x9:Hid (s.clear m s.nx=(⟨s.ents.set s.nx (eAt s.ents s.nx).off,s.q ++ [(eAt s.ents s.nx).tag],s.ph,s.nx,s.fd⟩,m.bG (eAt s.ents s.nx).tgt)):=by show _=_;unfold Tb.clear;simp only;rw [if_pos h2,if_pos hw]
 have H2:=aA h2;have HW:=aA hw;have b4:Hid (s.q.length<=20):=h0.o.b.q20;clear h3 hl h2 hw;generalize t.ph=ph at*;go_in;go_wp2_with fail;go_fit hn;rintro e _ ⟨rfl,rfl⟩;go_wp2_with fail;go_fit ch;rintro e _ ⟨rfl,rfl⟩;go_wp2_with fail;go_fit cs;rintro e w1 ⟨rfl,hf⟩;clear cs ch hn b9 z0 z3;obtain ⟨ev,qv,mo,ht⟩:=PL.tb T3 hf;obtain ⟨z0,z1,z2,z3,z4,z5,zf⟩:=ht.cells;have hi:s.nx<s.ents.length:=by have:=HL.o;omega
 have b6:((s.ph:Int) == 3)=false:=by rw [beq_eq_false_iff_ne];have:=H3.o;omega
 have d2:(s.nx:Int)<(s.ents.length:Int):=by omega
 have d3:¬ ((s.ents.length:Int)<=(s.nx:Int)):=by omega
 have d0:(0:Int)<=(s.nx:Int):=by omega
 have c9:s.nx<20:=by have:=h0.o.b.le;omega
 have x8:=aA (Tb.Good.clear h0.o x1.o hi H3.o HM.o);rw [x9.o] at hR x8;have HI:=aA hi;have b2:Hid (wfI (eAt s.ents s.nx).tgt):=dI (by have:=h0.o.b.tg HK.o hi;omega);have b0:=aA x1.o.p1;obtain ⟨g,cap,rfl,z6,_,c0,c1,c2,cf⟩:=ht.ents.at hi;have HF:=aA hf;have HT:=aA ht;clear hf ht zf z0 z1 z2 z5 c0 c1 c2 cf z6 hi h0 x1 H3 HL x9;have b5:((s.ph:Int) == 2)=true:=by rw [H2.o];rfl
 obtain ⟨sp,x4⟩:∃ z,z=s.ph:=⟨_,rfl⟩;rw [<-x4] at z3 b6 b5;have b1:=aA x4;clear x4;go_wp2;go_quiet (fail);have y5:=HF.o.drewN nq;have y:=HT.o.aK ((Only.refl [] w1).drewN nq);clear HF HT z3 z4;generalize w1.drewN nq=w2 at*;obtain ⟨z0,z1,z2,z3,z4,z5,zf⟩:=y.cells;obtain ⟨g2,a6,hv,z6,_,c0,c1,c2,cf⟩:=y.ents.at HI.o;simp only [Value.slice.injEq,Option.some.injEq,Addr.mk.injEq,and_true,true_and] at hv;obtain ⟨rfl,rfl⟩:=hv;have x2:s.ph=2:=H2.o;have z9:mo≠none:=y.two x2 (by have:=HI.o;omega);obtain ⟨mb,rfl⟩:∃ mb,mo=some mb:=by
  cases mo with
  | none=>exact absurd rfl z9
  | some mb=>exact ⟨mb,rfl⟩
 obtain ⟨fn,ff,y8,b3,y9⟩:=y.fnd mb rfl;obtain ⟨b7,y6⟩:=y9 x2;have h7:=y8.look (k:=s.nx) (by have:=HI.o;omega) (by omega);rw [y6 s.nx HI.o,HW.o] at h7;have a9:Hid (s.ents.length=(s.ents.set s.nx (eAt s.ents s.nx).off).length):=by show _=_;rw [List.length_set]
 have HF:=aA y5;have HT:=aA y;have x3:=y.q;obtain ⟨qa,qc,rfl⟩:=x3.len;obtain ⟨qn,h4⟩:∃ z,z=s.q.length:=⟨_,rfl⟩;have h1:=aA h4;have y1:Hid (w2.ownsRow 0 3 1 (.slice qa qn qc) qn (s.q.map (Value.int .i64))):=by rw [h4];exact x3
 rw [<-h4] at z2;have c8:qn<=20:=by rw [h4];exact b4.o
 obtain ⟨i0,z8,a3,a4,a5⟩:=info_parts jO;have I0:=aA z8;have I1:=aA a3;have I2:=aA a4;have I3:=aA a5;have c6:=zf 2;clear y5 y z9 y8 b3 y9 b7 y6 z0 zf c0 c1 cf x2 z3 z4 x3 h4 z8 a3 a4 a5;generalize c7:(eAt s.ents s.nx).tag=h5 at*;have c5:(w2.alloc (.cells #[.int .i64 h5] 3)).cell? ⟨b,2,none⟩=some (.slice qa qn qc):=by
  rw [h1.o];exact (HT.o.aK ((Only.refl [] w2).alloc (.cells #[.int .i64 h5] 3))).cells.2.2.1
 go_wp2;go_region_law ((refine step_append_lies _ (by rfl) _ _ 23 (by rfl) 0 3 i0 _ 1 8 Tryz.underlying23 I0.o I1.o I2.o I3.o rfl (by omega) _ qn _ (by rfl) ((y1.o.alloc _).drew) ⟨w2.heap.size,0,none⟩ 1 1 [.int .i64 h5] (by rfl) (by rfl) (World.news_of_block (cs:=#[.int .i64 h5]) (t:=3) (fr:=(0,0)) (heap_alloc_new w2 _)) (by simp [Value.oneCell']) (by omega) (by simp only [maxLen];omega) (by omega) (by simp) (w2.heap.size+1) (by simp) ?_;intro gg a6 w3 h9 h6 y3 b8;have c3:=PL.queued T3 HF.o HT.o _ (n:=qn+1) (q':=s.q ++ [h5]) (by simp [<-h1.o]) (by simpa using h9) (by rw [<-h1.o];exact h6) (by rw [<-h1.o];exact y3);obtain ⟨cp,fp,a1⟩:=c3;rw [<-h1.o] at cp;have y0:=aA a1;clear a1 h9 h6 y3 b8))
 all_goals (
  obtain ⟨x5,y7⟩:=y0.o;obtain ⟨g2,a7,hv,_,_,_,c1,_,cf⟩:=x5.ents.at HI.o;simp only [Value.slice.injEq,Option.some.injEq,Addr.mk.injEq,and_true,true_and] at hv;obtain ⟨rfl,rfl⟩:=hv;replace c1:_=some (Value.int .i64 (eAt s.ents s.nx).tgt):=c1;have y2:=aAS _ T3.t2 (PL.fixed T3 y7 x5) HM.o (eAt s.ents s.nx).tgt b2.o;clear x5 y7 y0 cp fp cf c2 z2 c5 c6 h7 z5 z1 y1;generalize (w3.setCell ⟨b,2,none⟩ _)=w4 at*;go_wp2_with fail;go_fit y2;rintro e w5 ⟨rfl,h8⟩;obtain ⟨x6,h8⟩:=PL.aRK T3 h8;obtain ⟨c4,d⟩:=PL.aCG T3 h8 x6 HI.o;obtain ⟨g2,a7,hv,_,_,_,d1,_,cf⟩:=x6.ents.at HI.o;simp only [Value.slice.injEq,Option.some.injEq,Addr.mk.injEq,and_true,true_and] at hv;obtain ⟨rfl,rfl⟩:=hv;have f1:=cf (s.nx*3+1);clear h8 x6 cf c4 y2 c1;have a0:=PL.aCH T3 d (s.nx+1);have cs:=gJ _ T3 a0 (fun _=>a9.o) x8.o b0.o;have e1:((s.nx+1:Nat):Int)=(s.nx:Int)+1:=by omega
  rw [e1] at cs;obtain ⟨_,_,_,x7⟩:=PL.tb T3 d;have y4:(w5.setCell ⟨g,s.nx*3+1,none⟩ (.int .i64 0)).cell? ⟨b,4,none⟩=some (.int .i64 (s.nx:Int)):=x7.cells.2.2.2.2.1;have g4:=x7.cells.2.2.2.2.2.2 4;clear a0 x7 e1 d;generalize s.nx=nx at*;generalize s.ents.length=d4 at*;go_wp2_with fail;go_fit cs;rintro e w6 ⟨rfl,d⟩;have a8:=aA d;clear cs d;go_wp2;refine bodyPost_ret (results_tmp3 rfl _ _ _) rfl ?_;rw [b1.o];exact hR.o _ _ ⟨rfl,a8.o⟩)
end
section
variable {l:List Asn} {i j k hb p b:Nat} {m:Mk} {t:Tb} {kk:Nat} {w0 w w':World}
theorem aIL (w:World) (y:Three l i j k) (z:Fam w0 w (PT l i j k hb p b m t)) (d:t.Good m) (hm:m.Ok):Calls prog 68 #[.pointer (some ⟨b,0,none⟩),.pointer (some ⟨p,0,none⟩)] w (fun e w'=>e=.returned (.tuple #[.int .i64 (t.step m).1,.int .i64 (t.step m).2.1,.int .i64 (t.step m).2.2.1])/\Fam w0 w' (PT l i j k hb p b (t.step m).2.2.2.2 (t.step m).2.2.2.1)):=by
 by_cases hp:t.ph=0
 ·exact aOh w y z d hm hp
 by_cases h3:(t.settle m).ph=3
 ·exact aOg w y z d hm hp h3
 by_cases hl:(t.settle m).ents.length<=(t.settle m).nx
 ·exact aGC w y z d hm hp h3 hl
 by_cases h2:(t.settle m).ph=2
 ·cases hw:(t.settle m).fd (t.settle m).nx
  ·exact aLK w y z d hm hp h3 hl h2 hw
  exact aLJ w y z d hm hp h3 hl h2 hw
 cases hw:m.isW (eAt (t.settle m).ents (t.settle m).nx).tgt
 ·exact aLI w y z d hm hp h3 hl h2 hw
 exact aLH w y z d hm hp h3 hl h2 hw
end
set_option maxHeartbeats 3200000
structure CX where
 hb:Nat
 p:Nat
 tb:Nat
 sv:Value
 ov:Bool
 mv:Nat
def dD (b:Nat) (c:Co) (x:CX):List Value:=[.int .i64 (c.pages:Int),.int .i64 c.rate,.pointer (some ⟨x.hb,0,none⟩),.pointer (some ⟨x.tb,0,none⟩),.pointer (some ⟨x.p,0,none⟩),.int .i64 (c.ph:Int),.int .i64 c.cr,.bool x.ov,x.sv,.int .i64 (x.mv:Int)]
structure CX.ok (x:CX) (c:Co):Prop where
 ov:c.ph=2->x.ov=decide (c.t.ph=0)
 mv:c.ph=4->x.mv=c.mv
 mv2:x.mv<=192
def C5 (b:Nat) (c:Co) (x:CX):List Asn:=[PH x.hb c.m.M,MkA x.p x.hb c.m.col c.m.list,TbA x.tb c.t c.t.ents.length,bT x.sv c.sw,eY b 142 (dD b c x)]
def CoA (b:Nat) (c:Co):Asn:=aLn (fun x=>CX.ok x c) (C5 b c)
structure GX5 where
 q:Nat
 r:Nat
 ub:Nat
 sv:Value
 on:Bool
 mv:Nat
def bC (b:Nat) (c:Co) (x:GX5):List Value:=[.pointer (some ⟨x.q,0,none⟩),.pointer (some ⟨x.ub,0,none⟩),.pointer (if x.on then some ⟨x.r,0,none⟩ else none),.int .i64 (c.ph:Int),.int .i64 c.cr,.int .i64 c.rate,.int .i64 (c.pages:Int),.int .i64 (x.mv:Int),x.sv]
structure GX5.ok (x:GX5) (c:Co):Prop where
 on:x.on=c.bar
 mv:c.ph=4->x.mv=c.mv
 m0:1<=c.ph->c.ph<=3->x.mv=0
 mv2:x.mv<=192
def MkO (y:Bool) (r q:Nat) (m:Mk):Asn:=if y then GkA r q m.col m.list else NoA
def G5 (b:Nat) (c:Co) (x:GX5):List Asn:=[GH x.q c.m.M,MkO x.on x.r x.q c.m,TrA x.ub c.t,bT x.sv c.sw,eY b 99 (bC b c x)]
def GoA (b:Nat) (c:Co):Asn:=aLn (fun x=>GX5.ok x c) (G5 b c)
section
variable {w0 w w':World} {l:List Asn} {b:Nat} {c:Co} {x:CX} {i:Nat} {m:Mk} {t:Tb}
theorem CoA.open (h:Fam w0 w l) (y:l[i]?=some (CoA b c)):∃ x:CX,x.ok c/\Fam w0 w (C5 b c x ++ l.set i NoA):=h.aQg y
theorem CoA.close (hx:x.ok c) (h:Fam w0 w (C5 b c x ++ l.set i NoA)) (y:i<l.length):Fam w0 w (l.set i (CoA b c)):=by
 have:=h.aKX (P:=fun x=>CX.ok x c) (F:=C5 b c) x hx rfl (aKA y);rwa [aJj] at this
theorem CoA.born (hx:x.ok c) (h:Fam w0 w (C5 b c x ++ l)):Fam w0 w (l ++ [CoA b c]):=h.aNZ (P:=fun x=>CX.ok x c) (F:=C5 b c) x hx rfl
theorem C5.t2:gZ (C5 b c x ++ l) 0 1:=⟨by simp [C5],by simp [C5],by decide⟩
theorem C5.t3:Three (C5 b c x ++ l) 0 1 2:=⟨C5.t2,by simp [C5],by decide,by decide⟩
theorem C5.row (h:Fam w0 w (C5 b c x ++ l)):Row w b 142 (dD b c x):=h.row 4 rfl
theorem C5.ph (h:Fam w0 w (C5 b c x ++ l)):c.m.M.Ok/\∃ L X,dO w L x.hb c.m.M X:=h.ph 0 rfl
theorem C5.sw (h:Fam w0 w (C5 b c x ++ l)):aN w 0 x.sv c.sw:=h.ints 3 rfl
theorem C5.tb (h:Fam w0 w (C5 b c x ++ l)):∃ y d z,mZ w x.tb y d z c.t c.t.ents.length:=PL.tb (C5.t3 (b:=b) (c:=c) (x:=x) (l:=l)) (hb:=x.hb) (p:=x.p) (b:=x.tb) (m:=c.m) (t:=c.t) (kk:=c.t.ents.length) h
theorem dD.cells (h:Fam w0 w (C5 b c x ++ l)):w.cell? ⟨b,0,none⟩=some (.int .i64 (c.pages:Int))/\w.cell? ⟨b,1,none⟩=some (.int .i64 c.rate)/\w.cell? ⟨b,2,none⟩=some (.pointer (some ⟨x.hb,0,none⟩))/\w.cell? ⟨b,3,none⟩=some (.pointer (some ⟨x.tb,0,none⟩))/\w.cell? ⟨b,4,none⟩=some (.pointer (some ⟨x.p,0,none⟩))/\w.cell? ⟨b,5,none⟩=some (.int .i64 (c.ph:Int))/\w.cell? ⟨b,6,none⟩=some (.int .i64 c.cr)/\w.cell? ⟨b,7,none⟩=some (.bool x.ov)/\w.cell? ⟨b,8,none⟩=some x.sv/\w.cell? ⟨b,9,none⟩=some (.int .i64 (x.mv:Int))/\∀ k,w.frozen? ⟨b,k,none⟩=false:=by
 have r:=C5.row h;exact ⟨r.cell 0 rfl,r.cell 1 rfl,r.cell 2 rfl,r.cell 3 rfl,r.cell 4 rfl,r.cell 5 rfl,r.cell 6 rfl,r.cell 7 rfl,r.cell 8 rfl,r.cell 9 rfl,fun k=>r.free k⟩
end
set_option maxHeartbeats 6400000
section
variable {w0 w:World} {l:List Asn} {b:Nat} {c:Co} {x:CX} {i:Nat}
theorem sZ (w:World):Calls prog 107 #[.pointer none] w (aO w (.bool true)):=by
 refine aF fun R y=>?_;go_in;go_wp2;exact y.o _ _ ⟨rfl,rfl⟩
theorem aJ (w:World) {hb:Nat} (h:w.cell? ⟨b,2,none⟩=some (.pointer (some ⟨hb,0,none⟩))):Calls prog 107 #[.pointer (some ⟨b,0,none⟩)] w (aO w (.bool false)):=by
 refine aF fun R y=>?_;go_in;go_wp2;exact y.o _ _ ⟨rfl,rfl⟩
theorem kJ (w:World) (y:Fam w0 w (C5 b c x ++ l)) (h:Int) (hh:wfI h):Calls prog 114 #[.pointer (some ⟨b,0,none⟩),.int .i64 h] w (Same w (.int .i64 (c.m.M.len h))):=by
 refine aF fun R z=>?_;obtain ⟨_,_,x2,_⟩:=dD.cells y;obtain ⟨hk,L,X,d⟩:=C5.ph y;have ct:=aBz w d h hh;unfold Hp.len at z;clear y hk d;go_in;go_wp2_with fail;go_fit ct;rintro e _ ⟨rfl,n,rfl⟩;go_wp2;exact z.o _ _ ⟨rfl,n,rfl⟩
theorem rM (h:c.Okc):c.ph=0\/c.ph=1\/c.ph=2\/c.ph=3\/c.ph=4:=by have:=h.p4;omega
theorem iF (w:World) (z:Fam w0 w (C5 b c x ++ l)) (h:c.Okc):Calls prog 117 #[.pointer (some ⟨b,0,none⟩)] w (aO w (.bool c.bar)):=by
 refine aF fun R y=>?_;obtain ⟨_,_,_,_,_,d,_⟩:=dD.cells z;unfold Co.bar at y;rcases rM h with e|e|e|e|e
 all_goals
  rw [e] at y d;clear z h e;go_in;go_wp2;exact y.o _ _ ⟨rfl,rfl⟩
theorem aIc (w:World) (y:Fam w0 w (C5 b c x ++ l)):Calls prog 53 #[.pointer (some ⟨b,0,none⟩)] w (aO w (.int .i64 (c.ph:Int))):=by
 refine aF fun R d=>?_;obtain ⟨_,_,x2,_,_,x5,_⟩:=dD.cells y;have z:=aJ w x2;clear y;generalize c.ph=ph at*;go_in;go_wp2_with fail;go_fit z;rintro e _ ⟨rfl,rfl⟩;go_wp2;exact d.o _ _ ⟨rfl,rfl⟩
theorem aFo (w:World) (y:Fam w0 w (C5 b c x ++ l)):Calls prog 54 #[.pointer (some ⟨b,0,none⟩)] w (aO w (.int .i64 c.cr)):=by
 refine aF fun R d=>?_;obtain ⟨_,_,x2,_,_,_,x6,_⟩:=dD.cells y;have z:=aJ w x2;clear y;go_in;go_wp2_with fail;go_fit z;rintro e _ ⟨rfl,rfl⟩;go_wp2;exact d.o _ _ ⟨rfl,rfl⟩
theorem fH (w:World) (hf:Fam w0 w (C5 b c x ++ l)) (h:c.Okc) (y:Int) (hy:wfI y):Calls prog 121 #[.pointer (some ⟨b,0,none⟩),.int .i64 y] w (Same w (.bool (c.hid y))):=by
 refine aF fun R z=>?_;obtain ⟨_,_,_,_,x4,x5,_,_,x8,_⟩:=dD.cells hf;have cc:=uI w (C5.t2 (b:=b) (c:=c) (x:=x) (l:=l)) (hb:=x.hb) (p:=x.p) (m:=c.m) hf y hy;have hs:=C5.sw hf;have cs:=qA w x.sv c.sw hs.read (by have:=h.vV;omega) y;have h0:=h.sw;unfold Co.hid at z;rcases rM h with e|e|e|e|e
 ·rw [if_neg (by omega),h0 (by omega)] at z;rw [e] at x5;replace z:Hid (∀ e w',Same w (.bool false) e w'->R e w'):=z;clear hf h e hs cc cs h0 x4 x8;go_in;go_wp2;exact z.o _ _ ⟨rfl,iZ _⟩
 ·rw [if_neg (by omega),h0 (by omega)] at z;rw [e] at x5;replace z:Hid (∀ e w',Same w (.bool false) e w'->R e w'):=z;clear hf h e hs cc cs h0 x4 x8;go_in;go_wp2;exact z.o _ _ ⟨rfl,iZ _⟩
 ·rw [if_pos e] at z;rw [e] at x5;unfold Mk.isW at z;unfold Mk.color at cc;clear hf h e hs cs h0 x8
  cases hu:(c.m.M.ob y).isSome with
  | false=>
   rw [hu] at z cc;replace z:Hid (∀ e w',Same w (.bool false) e w'->R e w'):=z;clear hu;go_in;go_wp2_with fail;go_fit cc;rintro e _ ⟨rfl,n,rfl⟩;go_wp2;exact z.o _ _ ⟨rfl,n,rfl⟩
  | true=>
   rw [hu] at z cc;replace z:Hid (∀ e w',Same w (.bool (decide (c.m.col y=0))) e w'->R e w'):=z;clear hu;generalize c.m.col y=k at *
   by_cases hk:k=0
   ·subst hk;replace z:Hid (∀ e w',Same w (.bool true) e w'->R e w'):=z;go_in;go_wp2_with fail;go_fit cc;rintro e _ ⟨rfl,n,rfl⟩;go_wp2;exact z.o _ _ ⟨rfl,n,rfl⟩
   rw [decide_eq_false hk] at z;have h1:(k == 0)=false:=by simpa using hk
   clear hk;go_in;go_wp2_with fail;go_fit cc;rintro e _ ⟨rfl,n,rfl⟩;go_wp2;exact z.o _ _ ⟨rfl,n,rfl⟩
 ·rw [if_neg (by omega)] at z;rw [e] at x5;obtain ⟨sa,sc,hv⟩:=hs.len;rw [hv] at cs x8;generalize c.sw.length=n at*;generalize decide (y∈c.sw)=d at*;clear hf h e hs cc h0 x4 hv;go_in;go_wp2_with fail;go_fit cs;rintro e _ ⟨rfl,rfl⟩;go_wp2;exact z.o _ _ ⟨rfl,iZ _⟩
 rw [if_neg (by omega),h0 (by omega)] at z;rw [e] at x5;replace z:Hid (∀ e w',Same w (.bool false) e w'->R e w'):=z;clear hf h e hs cc cs h0 x4 x8;go_in;go_wp2;exact z.o _ _ ⟨rfl,iZ _⟩
def Co.kQ (c:Co):Value:=
 if c.ph=1 then (if c.m.list=[] then .iface 163 (.agg #[.int .i64 2]) else .iface 157 (.agg #[]))
 else if c.ph=2 then (if c.t.ph≠0 then .iface 218 (.agg #[]) else if c.m.list=[] then .iface 163 (.agg #[.int .i64 3]) else .iface 157 (.agg #[]))
 else if c.ph=3 then (match c.sw with|[]=>.iface 163 (.agg #[.int .i64 4])|h :: _=>.iface 160 (.agg #[.int .i64 h]))
 else (if c.mv=8*c.pages then .iface 163 (.agg #[.int .i64 0]) else .iface 219 (.agg #[]))
theorem bQ (w:World) (hf:Fam w0 w (C5 b c x ++ l)) (h:c.Okc) (hx:x.ok c) (hp:c.ph≠0):Calls prog 112 #[.pointer (some ⟨b,0,none⟩)] w (Same w c.kQ):=by
 refine aF fun R z=>?_;obtain ⟨x0,_,_,_,x4,x5,_,x7,x8,x9,_⟩:=dD.cells hf;have cd:=yZ w (C5.t2 (b:=b) (c:=c) (x:=x) (l:=l)) (hb:=x.hb) (p:=x.p) (m:=c.m) hf;have hs:=C5.sw hf;unfold Co.kQ at z;rcases rM h with e|e|e|e|e
 ·exact absurd e hp
 ·rw [if_pos e] at z;rw [e] at x5;clear hf h hs x7 x8 x9 x0 hx hp e
  by_cases d:c.m.list=[]
  ·rw [if_pos d] at z;rw [decide_eq_true d] at cd;clear d;go_in;go_wp2_with fail;go_fit cd;rintro e _ ⟨rfl,rfl⟩;go_wp2;exact z.o _ _ ⟨rfl,iZ _⟩
  rw [if_neg d] at z;rw [decide_eq_false d] at cd;clear d;go_in;go_wp2_with fail;go_fit cd;rintro e _ ⟨rfl,rfl⟩;go_wp2;exact z.o _ _ ⟨rfl,iZ _⟩
 ·rw [if_neg (by omega),if_pos e] at z;have h0:=hx.ov e;rw [e] at x5;clear hf h hs x8 x9 x0 hx hp e
  by_cases ht:c.t.ph≠0
  ·rw [if_pos ht] at z;rw [decide_eq_false ht] at h0;rw [h0] at x7;clear cd ht h0;go_in;go_wp2;exact z.o _ _ ⟨rfl,iZ _⟩
  rw [if_neg ht] at z;rw [decide_eq_true (Classical.not_not.1 ht)] at h0;rw [h0] at x7;clear ht h0
  by_cases d:c.m.list=[]
  ·rw [if_pos d] at z;rw [decide_eq_true d] at cd;clear d;go_in;go_wp2_with fail;go_fit cd;rintro e _ ⟨rfl,rfl⟩;go_wp2;exact z.o _ _ ⟨rfl,iZ _⟩
  rw [if_neg d] at z;rw [decide_eq_false d] at cd;clear d;go_in;go_wp2_with fail;go_fit cd;rintro e _ ⟨rfl,rfl⟩;go_wp2;exact z.o _ _ ⟨rfl,iZ _⟩
 ·rw [if_neg (by omega),if_neg (by omega),if_pos e] at z;rw [e] at x5;clear hf h cd x7 x9 x0 hx hp e x4
  cases hc:c.sw with
  | nil=>
   rw [hc] at hs z;obtain ⟨sa,sc,hv⟩:=hs.len;rw [hv] at x8;replace x8:w.cell? ⟨b,8,none⟩=some (.slice sa 0 sc):=x8;clear hs hv hc;go_in;go_wp2;exact z.o _ _ ⟨rfl,iZ _⟩
  | cons y r=>
   rw [hc] at hs z;obtain ⟨sa,sc,hv⟩:=hs.len;rw [hv] at x8 hs;obtain ⟨sb,so,h4,h1⟩:=hs.read.at (k:=0) (by simp);rw [h4] at x8;rw [Nat.add_zero] at h1;replace h1:w.cell? ⟨sb,so,none⟩=some (.int .i64 y):=h1;replace x8:w.cell? ⟨b,8,none⟩=some (.slice (some ⟨sb,so,none⟩) (r.length+1) sc):=x8;replace z:Hid (∀ e w',Same w (.iface 160 (.agg #[.int .i64 y])) e w'->R e w'):=z;clear hs hv hc h4;generalize r.length=n at*;have h8:((n:Int)+1 == 0)=false:=by rw [beq_eq_false_iff_ne];omega
   have h9:(0:Int)<(n:Int)+1:=by omega
   go_in;go_wp2;exact z.o _ _ ⟨rfl,iZ _⟩
 rw [if_neg (by omega),if_neg (by omega),if_neg (by omega)] at z;have h3:=hx.mv e;rw [h3] at x9;rw [e] at x5;have x1:=h.pg;have h7:=h.mv;clear hf h hs cd x7 hx hp e x4 x8 h3;generalize c.pages=n at*;generalize c.mv=v at*;have h6:IntKind.i64.wrap (8*(n:Int))=8*(n:Int):=IntWalk.i64_in _ (by omega);have h2:IntKind.i64.wrap (8*(n:Int))=((8*n:Nat):Int):=h6.trans (by omega)
 by_cases hc:v=8*n
 ·rw [if_pos hc] at z;have h5:((v:Int) == 8*(n:Int))=true:=by simp;omega
  clear hc h2;go_in;go_wp2_with fail;go_region
  all_goals
   go_wp2;exact z.o _ _ ⟨rfl,1,rfl⟩
 rw [if_neg hc] at z;have h5:((v:Int) == 8*(n:Int))=false:=by rw [beq_eq_false_iff_ne];omega
 clear hc h2;go_in;go_wp2_with fail;go_region
 all_goals
  go_wp2;exact z.o _ _ ⟨rfl,1,rfl⟩
end
def aBr (w0:World) (l:List Asn) (b:Nat) (r:Int×Co) (e:Ending) (w':World):Prop:=e=.returned (.int .i64 r.1)/\∃ y:CX,y.ok r.2/\Fam w0 w' (C5 b r.2 y ++ l)
section
variable {w0 w:World} {l:List Asn} {b:Nat} {c:Co} {x:CX} {i:Nat}
theorem C5.alloc (y:Fam w0 w (C5 b c x ++ l)) (o:Obj):Fam w0 (w.alloc o) (C5 b c x ++ l):=Fam.alloc y o
theorem C5.tY (y:Fam w0 w (C5 b c x ++ l)) (n:Nat):Fam w0 (w.setCell ⟨b,5,none⟩ (.int .i64 (n:Int))) (C5 b { c with ph:=n } x ++ l):=y.bW 4 rfl 5 _
theorem C5.aEt (y:Fam w0 w (C5 b c x ++ l)) (n:Int):Fam w0 (w.setCell ⟨b,6,none⟩ (.int .i64 n)) (C5 b { c with cr:=n } x ++ l):=y.bW 4 rfl 6 _
theorem C5.aOr (y:Fam w0 w (C5 b c x ++ l)) (v:Bool):Fam w0 (w.setCell ⟨b,7,none⟩ (.bool v)) (C5 b c { x with ov:=v } ++ l):=y.bW 4 rfl 7 _
theorem C5.aMd (y:Fam w0 w (C5 b c x ++ l)) (n:Nat):Fam w0 (w.setCell ⟨b,9,none⟩ (.int .i64 (n:Int))) (C5 b c { x with mv:=n } ++ l):=y.bW 4 rfl 9 _
theorem C5.aGH {d:World} (hf:Fam w0 w (C5 b c x ++ l)) (ho:Only [] w d) {v:Value} {s:List Int} (hi:aN d w.heap.size v s):Fam w0 (d.setCell ⟨b,8,none⟩ v) (C5 b { c with sw:=s } { x with sv:=v } ++ l):=by
 have h1:Fam w0 d ((C5 b c x ++ l) ++ [bT v s]):=hf.gY ho hi;have h2:=h1.bW 4 rfl 8 v;have h0:(C5 b c x ++ l).length=5+l.length:=by rw [List.length_append];rfl
 refine h2.selC (fun k=>if k=3 then 5+l.length else k) (fun k A hk=>?_) (fun j k hj hk hne=>?_)
 ·by_cases e:k=3
  ·rw [if_pos e];subst e;have z:A=bT v s:=by
    have h3:(C5 b { c with sw:=s } { x with sv:=v } ++ l)[3]?=some (bT v s):=rfl;rw [h3] at hk;exact (Option.some.inj hk).symm
   rw [z,List.getElem?_set_ne (by omega),List.getElem?_append_right (by omega),show 5+l.length - (C5 b c x ++ l).length=0 by omega];rfl
  rw [if_neg e];have h4:=(List.getElem?_eq_some_iff.1 hk).1;have y:(C5 b { c with sw:=s } { x with sv:=v } ++ l).length=5+l.length:=by rw [List.length_append];rfl
  by_cases e4:k=4
  ·subst e4;have h3:(C5 b { c with sw:=s } { x with sv:=v } ++ l)[4]?=some (eY b 142 (dD b { c with sw:=s } { x with sv:=v })):=rfl;rw [h3] at hk;rw [<-Option.some.inj hk];rw [List.getElem?_set_self (by rw [List.length_append,h0];omega)];rfl
  rw [List.getElem?_set_ne (fun e=>e4 e.symm),List.getElem?_append_left (by omega)];rw [<-hk]
  match k,e,e4 with
  | 0,_,_=>rfl
  | 1,_,_=>rfl
  | 2,_,_=>rfl
  | k+5,_,_=>rfl
 have y:(C5 b { c with sw:=s } { x with sv:=v } ++ l).length=5+l.length:=by rw [List.length_append];rfl
 rw [y] at hj hk
 by_cases e:j=3
 ·rw [if_pos e]
  by_cases z:k=3
  ·omega
  rw [if_neg z];omega
 rw [if_neg e]
 by_cases z:k=3
 ·rw [if_pos z];omega
 rw [if_neg z];exact hne
theorem C5.last {g T:Nat} {cs:List Value} (y:Fam w0 w (C5 b c x ++ (l ++ [eY g T cs]))):Row w g T cs:=by
 refine y.row (5+l.length) ?_;have z:(C5 b c x).length=5:=rfl;rw [List.getElem?_append_right (by omega),List.getElem?_append_right (by omega),show 5+l.length - (C5 b c x).length - l.length=0 by omega];rfl
theorem aBA {m:Mk} (h:m.Ok):wfI m.step.1:=by
 unfold Mk.step
 cases e:m.list with
 | nil=>show wfI 0;exact dI (by decide)
 | cons y t=>
  show wfI y;have:=h.inR (x:=y) (by rw [e];simp);exact dI (by omega)
theorem aIH {y:Int} (h:1<=y/\y<=192):wfI y:=dI (by omega)
theorem uJ (w:World) (y:Fam w0 w (C5 b c x ++ l)) (hx:x.ok c) (z:c.m.Ok):Calls prog 298 #[.agg #[],.pointer (some ⟨b,0,none⟩)] w (aBr w0 l b c.mark):=by
 refine aF fun R hR=>?_;have HF:=aA y;have HM:=aA z;have HX:=aA hx;have HW:=aA (aBA z);have h0:=fG (by have:=z.hf.ok;rw [<-Mk.nM (m:=c.m)] at this;exact this:c.m.step.2.2.M.Ok) c.m.step.1;have HR:Hid (∀ w',Fam w0 w' (C5 b (c.pU c.m.step.2.2) x ++ l)->R (.returned (.int .i64 (1+c.m.step.2.2.M.len c.m.step.1))) w'):=fun w' h=>hR.o _ _ ⟨by show _=Ending.returned (.int .i64 (1+c.m.M.len c.m.step.1));rw [<-Mk.nM (m:=c.m)],x,⟨hx.ov,hx.mv,hx.mv2⟩,h⟩;clear hR y z hx;go_in;go_upto_region 1 with fail;have F1:=aA (C5.alloc HF.o (.cells #[] 157));obtain ⟨_,_,_,_,x4,_⟩:=dD.cells F1.o;have cs:=aDg _ (C5.t2 (b:=b) (c:=c) (x:=x) (l:=l)) (hb:=x.hb) (p:=x.p) F1.o HM.o;generalize w.alloc (.cells #[] 157)=w1 at*;go_wp2_with fail;go_fit cs;rintro e d ⟨rfl,y⟩;have F2:Hid (Fam w0 d (C5 b (c.pU c.m.step.2.2) x ++ l)):=y;have cl:=kJ d F2.o c.m.step.1 HW.o;replace cl:Calls prog 114 #[.pointer (some ⟨b,0,none⟩),.int .i64 c.m.step.1] d (Same d (.int .i64 (c.m.step.2.2.M.len c.m.step.1))):=cl;clear cs y x4 F1;generalize c.m.step.2.2.M.len c.m.step.1=n at*;go_wp2_with fail;go_fit cl;rintro e _ ⟨rfl,k,rfl⟩;have F3:=aA (F2.o.drewN k);clear cl F2;go_wp2_with fail;exact HR.o _ F3.o
theorem aGa (w:World) (z:Fam w0 w (C5 b c x ++ l)) (h s v:Int) (d:wfI h) (hv:wfI v):Calls prog 127 #[.pointer (some ⟨x.hb,0,none⟩),.int .i64 h,.int .i64 s,.int .i64 v] w (fun e w'=>e=.returned (.int .i64 (c.m.M.set h s v).1)/\Fam w0 w' (C5 b (c.pU (c.m.put (c.m.M.set h s v).2)) x ++ l)):=
 z.aCU 0 rfl (M':=(c.m.M.set h s v).2) (fun y=>y.set h s v) (fun L X hr y=>aJg w hr y h s v d hv)
theorem aIp (w:World) (y:Fam w0 w (C5 b c x ++ l)) (h:Int) (hh:wfI h):Calls prog 304 #[.pointer (some ⟨b,0,none⟩),.int .i64 h] w (fun e w'=>e=.returned (.tuple #[])/\Fam w0 w' (C5 b (c.pU (c.m.put (c.m.M.blank h))) x ++ l)):=by
 refine aF fun R hR=>?_;have HF:=aA y;have HW:=aA hh;have cl:=kJ w y h hh;have h2:=fG (C5.ph y).1 h;obtain ⟨n,hn⟩:∃ n:Nat,c.m.M.len h=(n:Int):=⟨(c.m.M.len h).toNat,by omega⟩;have HB:Hid (c.m.M.blank h=c.m.M.bI h n):=by show _=_;unfold Hp.blank;rw [hn];rfl
 rw [hn] at cl h2;rw [HB.o] at hR;clear y hh hn HB;go_in;go_wp2_with fail;go_fit cl;rintro e _ ⟨rfl,k0,rfl⟩;have F1:=aA (HF.o.drewN k0);generalize w.drewN k0=w1 at*;clear cl HF;go_wp2;go_loopw [10] (fun iv wr=>∃ k:Nat,k<=n/\iv=.int .i64 k/\Fam w0 wr (C5 b (c.pU (c.m.put (c.m.M.bI h k))) x ++ l)) (fun iv _=>n - (intOf iv).toNat)
 case atStart=>exact ⟨0,by omega,rfl,F1.o⟩
 case round=>as_aux_lemma=>
  clear F1;obtain ⟨k,hk,rfl,y⟩:=hrel;have HF:=aA y
  by_cases h3:k<n
  ·have h1:(k:Int)<(n:Int):=by omega
   obtain ⟨_,_,x2,_⟩:=dD.cells y;obtain ⟨h0,L,X,hp⟩:=C5.ph y;have d:=sG wr hp h0 h (k:Int) HW.o;have HB:Hid (c.m.M.bI h (k+1)=if ((c.m.M.bI h k).isRef h (k:Int)).1=true then ((c.m.M.bI h k).set h (k:Int) 0).2 else c.m.M.bI h k):=rfl;have c2:=aGa wr y h (k:Int) 0 HW.o (dI (by decide));replace d:Calls prog 125 #[.pointer (some ⟨x.hb,0,none⟩),.int .i64 h,.int .i64 (k:Int)] wr (aO wr (.tuple #[.bool ((c.m.M.bI h k).isRef h (k:Int)).1,.int .i64 ((c.m.M.bI h k).isRef h (k:Int)).2])):=d;replace c2:Calls prog 127 #[.pointer (some ⟨x.hb,0,none⟩),.int .i64 h,.int .i64 (k:Int),.int .i64 0] wr (fun e w'=>e=.returned (.int .i64 ((c.m.M.bI h k).set h (k:Int) 0).1)/\Fam w0 w' (C5 b (c.pU (c.m.put ((c.m.M.bI h k).set h (k:Int) 0).2)) x ++ l)):=c2;clear y h0 hp
   cases hr:((c.m.M.bI h k).isRef h (k:Int)).1 with
   | true=>
    rw [hr] at d;have z:Hid (c.m.M.bI h (k+1)=((c.m.M.bI h k).set h (k:Int) 0).2):=by show _=_;rw [HB.o,if_pos hr]
    rw [<-z.o] at c2;clear HB z hr;generalize ((c.m.M.bI h k).isRef h (k:Int)).2=y1 at*;generalize ((c.m.M.bI h k).set h (k:Int) 0).1=y2 at*;go_wp2_with fail;go_fit d;rintro e _ ⟨rfl,rfl⟩;clear d;go_wp2_with fail;go_fit c2;rintro e w2 ⟨rfl,y⟩;have F2:=aA y;clear c2 y HF x2;go_wp2;exact ⟨⟨k+1,by omega,by go_num,F2.o⟩,by simp [intOf];omega⟩
   | false=>
    rw [hr] at d;have z:Hid (c.m.M.bI h (k+1)=c.m.M.bI h k):=by show _=_;rw [HB.o,if_neg (by rw [hr];decide)]
    clear c2 HB hr;generalize ((c.m.M.bI h k).isRef h (k:Int)).2=y1 at*;go_wp2_with fail;go_fit d;rintro e _ ⟨rfl,rfl⟩;clear d;go_wp2;exact ⟨⟨k+1,by omega,by go_num,by rw [z.o];exact HF.o⟩,by simp [intOf];omega⟩
  obtain rfl:k=n:=by omega
  have h1:¬ (k:Int)<(k:Int):=by omega
  clear y;go_wp2_with fail;go_end0;exact hR.o _ _ ⟨rfl,HF.o⟩
theorem aFr (w:World) (hf:Fam w0 w (C5 b c x ++ l)) (hx:x.ok c) (h:c.Okc) (hp:c.ph=1) (hl:c.m.list=[]):Calls prog 302 #[.agg #[.int .i64 2],.pointer (some ⟨b,0,none⟩)] w (aBr w0 l b c.jH):=by
 refine aF fun R hR=>?_;have y:Hid (Fam w0 (w.alloc (.cells #[.int .i64 2] 163)) (C5 b c x ++ (l ++ [eY w.heap.size 163 [.int .i64 2]]))):=hf.addRow 163 [.int .i64 2];have HG:=aA h.tg;have hb:=Pst.begin h.tg (h.mo (.inl hp)) (h.t0 (by omega)) hl;have z:=hx.mv2;have HR:Hid (∀ w',Fam w0 w' (C5 b c.jH.2 { x with ov:=false } ++ l)->R (.returned (.int .i64 1)) w'):=fun w' h2=>hR.o _ _ ⟨rfl,{ x with ov:=false },⟨fun _=>(decide_eq_false hb.1).symm,fun e=>by (cases e),z⟩,h2⟩;clear hf h hb hl hp hR hx z;go_in;go_upto_region 1 with fail;obtain ⟨g,hg⟩:∃ g,g=w.heap.size:=⟨_,rfl⟩;rw [<-hg] at y ⊢;have r0:=C5.last y.o;have y0:=r0.cell 0 rfl;obtain ⟨_,_,_,_,_,_,_,_,_,_,xf⟩:=dD.cells y.o;have h0:=xf 5;have d:Hid (Fam w0 ((w.alloc (.cells #[.int .i64 2] 163)).setCell ⟨b,5,none⟩ (.int .i64 2)) (C5 b { c with ph:=2 } x ++ (l ++ [eY g 163 [.int .i64 2]]))):=C5.tY y.o 2;have r1:=C5.last d.o;have y1:=r1.cell 0 rfl;have h1:=(dD.cells d.o).2.2.2.2.2.2.2.2.2.2 7;have F2:Hid (Fam w0 (((w.alloc (.cells #[.int .i64 2] 163)).setCell ⟨b,5,none⟩ (.int .i64 2)).setCell ⟨b,7,none⟩ (.bool false)) (C5 b { c with ph:=2 } { x with ov:=false } ++ (l ++ [eY g 163 [.int .i64 2]]))):=C5.aOr d.o false;generalize w.alloc (.cells #[.int .i64 2] 163)=w1 at*;clear r0 r1 xf hg;go_upto_region 5 with fail;generalize (w1.setCell ⟨b,5,none⟩ (.int .i64 2)).setCell ⟨b,7,none⟩ (.bool false)=w2 at*;clear y0 y1 h0 h1 y d;have HC:Hid (∀ wx,Fam w0 wx (C5 b { c with ph:=2 } { x with ov:=false } ++ (l ++ [eY g 163 [.int .i64 2]]))->Calls prog 20 #[.pointer (some ⟨x.tb,0,none⟩),.pointer (some ⟨x.p,0,none⟩)] wx (fun e w'=>e=.returned (.int .i64 (c.t.begin c.m).1)/\Fam w0 w' (C5 b { c with ph:=2,t:=(c.t.begin c.m).2 } { x with ov:=false } ++ (l ++ [eY g 163 [.int .i64 2]])))):=fun wx hx=>aGD wx (C5.t3 (b:=b) (c:={ c with ph:=2 }) (x:={ x with ov:=false })) (hb:=x.hb) (p:=x.p) (b:=x.tb) (m:=c.m) (t:=c.t) hx HG.o;go_region_held3 (fun w'=>w'.cell? ⟨b,3,none⟩=some (.pointer (some ⟨x.tb,0,none⟩))/\w'.cell? ⟨b,4,none⟩=some (.pointer (some ⟨x.p,0,none⟩)))
  (first|(exact ⟨(C5.row F2.o).cell 3 rfl,(C5.row F2.o).cell 4 rfl⟩)|(exact ⟨(C5.row f3).cell 3 rfl,(C5.row f3).cell 4 rfl⟩))
  (first|(go_at_call 20;refine (HC.o _ F2.o.drew).mono ?_;rintro e w3 ⟨rfl,f3⟩))
 have F3:Hid (Fam w0 w3 (C5 b c.jH.2 { x with ov:=false } ++ l)):=by
  have f4:Fam w0 w3 ((C5 b { c with ph:=2,t:=(c.t.begin c.m).2 } { x with ov:=false } ++ l) ++ [eY g 163 [.int .i64 2]]):=f3;exact f4.pop
 clear f3 HC F2;go_wp2_with fail;exact HR.o _ F3.o
end
set_option maxHeartbeats 3200000
def QL (l:List Asn) (i j k q r b:Nat) (m:Mk) (t:Tb):List Asn:=RL (l.set k (TrA b t)) i j q r m
section
variable {l:List Asn} {i j k q r b:Nat} {m:Mk} {t:Tb} {w0 w w':World}
theorem QL.self (h:Three l i j k):(QL l i j k q r b m t)[k]?=some (TrA b t):=by
 unfold QL RL;rw [List.getElem?_set_ne (Ne.symm h.kj),List.getElem?_set_ne (Ne.symm h.ki),List.getElem?_set_self h.hk]
theorem QL.put (h:Three l i j k) (t':Tb):(QL l i j k q r b m t).set k (TrA b t')=QL l i j k q r b m t':=by
 unfold QL RL;rw [List.set_comm _ _ (Ne.symm h.kj),List.set_comm _ _ (Ne.symm h.ki),List.set_set]
theorem lC.cells {y z d:Value} {nx:Nat} {wl:List Bool} (h:lC w b y z d nx wl t):w.cell? ⟨b,0,none⟩=some y/\w.cell? ⟨b,1,none⟩=some z/\w.cell? ⟨b,2,none⟩=some (.int .i64 (t.ph:Int))/\w.cell? ⟨b,3,none⟩=some (.int .i64 (nx:Int))/\w.cell? ⟨b,4,none⟩=some d/\∀ k,w.frozen? ⟨b,k,none⟩=false:=by
 obtain ⟨U,h⟩:=h.row;exact ⟨h.cell 0 rfl,h.cell 1 rfl,h.cell 2 rfl,h.cell 3 rfl,h.cell 4 rfl,fun k=>h.free k⟩
theorem lC.same {ev qv wv y z d:Value} {nx h0:Nat} {wl h1:List Bool} {t2:Tb} (h:lC w b ev qv wv nx wl t) (e:lC w b y z d h0 h1 t2):y=ev/\z=qv/\d=wv:=by
 have e1:=h.cells.1.symm.trans e.cells.1;have e2:=h.cells.2.1.symm.trans e.cells.2.1;have e3:=h.cells.2.2.2.2.1.symm.trans e.cells.2.2.2.2.1;simp only [Option.some.injEq] at e1 e2 e3;exact ⟨e1.symm,e2.symm,e3.symm⟩
theorem QL.tr (h:Three l i j k) (hf:Fam w0 w (QL l i j k q r b m t)):∃ y z d nx wl,lC w b y z d nx wl t:=by
 obtain ⟨S,⟨y,z,d,nx,wl,e,_⟩,_⟩:=hf.get k (QL.self h);exact ⟨y,z,d,nx,wl,e⟩
def trS (b:Nat) (y z d:Value) (x:Nat):Prop:=x=b\/y.ownBlock=some x\/z.ownBlock=some x\/d.ownBlock=some x
theorem QL.trT (h:Three l i j k) (hf:Fam w0 w (QL l i j k q r b m t)) {ev qv wv:Value} {nx:Nat} {wl:List Bool} (hm:lC w b ev qv wv nx wl t) (y z d:Value) (nx':Nat) (e:List Bool) (t':Tb) (h1:lC w' b y z d nx' e t')
  (h2:∀ x,trS b y z d x->trS b ev qv wv x\/w.heap.size<=x) (h3:aI (trS b ev qv wv) w w'):Fam w0 w' (QL l i j k q r b m t'):=by
 rw [<-QL.put h t' (t:=t)];refine hf.turn k (QL.self h) fun S hS=>?_;obtain ⟨h4,h6,h8,h5,h7,h0,hS⟩:=hS;obtain ⟨rfl,rfl,rfl⟩:=hm.same h0;exact ⟨trS b y z d,⟨y,z,d,nx',e,h1,fun k=>Iff.rfl⟩,fun k hk=>(h2 k hk).imp (fun x=>(hS k).2 x) id,h3.mono (fun k hk=>.inl ((hS k).2 hk))⟩
theorem lC.rest {d e wv:Value} {nx:Nat} {wl:List Bool} (h:lC w b d e wv nx wl t) (z:Only [b] w w'):iP w' 48 0 d t.ents/\aN w' 0 e t.q/\Bls w' 0 wv wl:=
 ⟨h.ents.only z (fun g y x=>(h.n1 g y).1 (by simpa using x)),h.q.only z (fun g y x=>(h.n2 g y).1 (by simpa using x)),h.wh.only z (fun g y x=>h.n3 (by simp at x;rw [<-x];exact y))⟩
theorem lC.aK {y d e:Value} {nx:Nat} {wl:List Bool} (h:lC w b y d e nx wl t) (z:Only [] w w'):lC w' b y d e nx wl t:=by
 obtain ⟨h1,h2,h3⟩:=h.rest (z.mono (by simp));exact ⟨h.row.imp fun U x=>z.row x (by simp),h1,h2,h3,h.now,h.two,h.n1,h.n2,h.n3⟩
theorem QL.aCI (h:Three l i j k) (hf:Fam w0 w (QL l i j k q r b m t)) (z:Nat) (hp:z≠2) (nx':Nat) (hn:∀ d qv wv nx wl,lC w b d qv wv nx wl t->aAI (t.at z nx') nx):Fam w0 (w.setCell ⟨b,2,none⟩ (.int .i64 (z:Int))) (QL l i j k q r b m (t.at z nx')):=by
 obtain ⟨d,qv,wv,nx,wl,y⟩:=QL.tr h hf;have ho:Only [b] w (w.setCell ⟨b,2,none⟩ (.int .i64 (z:Int))):=(Only.refl _ w).set (.inl (by simp)) _;obtain ⟨h1,h2,h3⟩:=y.rest ho;exact QL.trT h hf y d qv wv nx wl _ ⟨y.row.imp fun U x=>x.set 2 _,h1,h2,h3,hn _ _ _ _ _ y,⟨y.two.1,fun e=>absurd e hp⟩,y.n1,y.n2,y.n3⟩ (fun x hx=>.inl hx) (ho.toP (fun x hx=>.inl (.inl (by simpa using hx))))
theorem QL.aOt (h:Three l i j k) (z:Fam w0 w (QL l i j k q r b m t)) (n nx':Nat) (hn:aAI (t.at t.ph nx') n):Fam w0 (w.setCell ⟨b,3,none⟩ (.int .i64 (n:Int))) (QL l i j k q r b m (t.at t.ph nx')):=by
 obtain ⟨e,qv,wv,nx,wl,y⟩:=QL.tr h z;have d:Only [b] w (w.setCell ⟨b,3,none⟩ (.int .i64 (n:Int))):=(Only.refl _ w).set (.inl (by simp)) _;obtain ⟨h1,h2,h3⟩:=y.rest d;exact QL.trT h z y e qv wv n wl _ ⟨y.row.imp fun U x=>x.set 3 _,h1,h2,h3,hn,y.two,y.n1,y.n2,y.n3⟩ (fun x hx=>.inl hx) (d.toP (fun x hx=>.inl (.inl (by simpa using hx))))
theorem aAI.self (t:Tb):aAI t t.nx:=⟨fun _=>rfl,fun _=>rfl,fun _=>rfl⟩
theorem aEw (w:World) {ev qv wv:Value} {nx:Nat} {wl:List Bool} (h:lC w b ev qv wv nx wl t) (n:Int):Calls prog 230 #[.pointer (some ⟨b,0,none⟩),.int .i64 n] w (aO w (.int .i64 (t.entry n).2)):=by
 refine aF fun R y=>?_;obtain ⟨z0,z1,z2,z3,z4,_⟩:=h.cells;obtain ⟨a,c,rfl⟩:=h.ents.len;unfold Tb.entry at y;clear h
 by_cases d:n<0
 ·rw [if_pos (.inl d)] at y;generalize t.ents.length=z at*;go_in;go_wp2;exact y.o _ _ ⟨rfl,rfl⟩
 by_cases e:(t.ents.length:Int)<=n
 ·rw [if_pos (.inr e)] at y;generalize t.ents.length=z at*;go_in;go_wp2;exact y.o _ _ ⟨rfl,rfl⟩
 rw [if_neg (fun h=>h.elim d e)] at y;generalize t.ents.length=z at*;go_in;go_wp2;exact y.o _ _ ⟨rfl,rfl⟩
theorem aCK (w:World) {ev qv wv:Value} {nx:Nat} {wl:List Bool} (h:lC w b ev qv wv nx wl t) (n:Int):Calls prog 183 #[.pointer (some ⟨b,0,none⟩),.int .i64 n] w (aO w (.tuple #[.int .i64 (t.target n).1,.int .i64 (t.target n).2])):=by
 refine aF fun R z=>?_;have d:=aEw w h n;obtain ⟨z0,z1,z2,z3,z4,_⟩:=h.cells;have HE:=aA h.ents;unfold Tb.entry at d;unfold Tb.target at z;clear h
 by_cases h1:n<0\/(t.ents.length:Int)<=n
 ·rw [if_pos h1] at z d;clear h1;go_in;go_wp2_with fail;go_fit d;rintro e _ ⟨rfl,rfl⟩;go_wp2;exact z.o _ _ ⟨rfl,rfl⟩
 rw [if_neg h1] at z d;obtain ⟨y,rfl⟩:∃ y:Nat,n=(y:Int):=⟨n.toNat,by omega⟩;rw [Int.toNat_natCast] at z;have hy:y<t.ents.length:=by omega
 have h0:(0:Int)<=(y:Int):=by omega
 have h2:(y:Int)<(t.ents.length:Int):=by omega
 obtain ⟨g,cap,rfl,_,_,c0,c1,c2,_⟩:=HE.o.at hy;generalize eAt t.ents y=en at*;generalize t.ents.length=h3 at*;clear h1 hy;go_in;go_wp2_with fail;go_fit d;rintro e _ ⟨rfl,rfl⟩;go_wp2;exact z.o _ _ ⟨rfl,rfl⟩
theorem xZ (w:World) (T2:gZ l i j) (hf:Fam w0 w (RL l i j q r m)) (x:Int):Calls prog 161 #[.pointer (some ⟨r,0,none⟩),.int .i64 x] w (fun e w'=>e=.returned (.bool (m.isW x))/\Only [] w w'):=by
 refine aF fun R y=>?_;have d:=aBe w T2 hf x;have hW:m.isW x=(decide ((m.color x).2=0) && decide ((m.color x).1=0)):=by
  unfold Mk.isW Mk.color
  cases h:(m.M.ob x).isSome<;>simp
 rw [hW] at y;clear hf hW;generalize m.color x=rr at*;obtain ⟨c,e⟩:=rr
 by_cases h1:e=0
 ·subst h1
  by_cases h2:c=0
  ·subst h2;go_in;go_wp2_with fail;go_fit d;rintro e w1 ⟨rfl,z⟩;have HO:=aA z;clear z d;go_wp2;exact y.o _ _ ⟨rfl,HO.o⟩
  have hc:(c == 0)=false:=by rw [beq_eq_false_iff_ne];exact h2
  have hd:(decide ((0:Int)=0) && decide (c=0))=false:=by simp [h2]
  replace y:Hid (∀ e w',(e=.returned (.bool false)/\Only [] w w')->R e w'):=by rw [<-hd];exact y
  clear hd;go_in;go_wp2_with fail;go_fit d;rintro e w1 ⟨rfl,z⟩;have HO:=aA z;clear z d;go_wp2;exact y.o _ _ ⟨rfl,HO.o⟩
 have hc:(e == 0)=false:=by rw [beq_eq_false_iff_ne];exact h1
 have hd:(decide (e=0) && decide (c=0))=false:=by simp [h1]
 replace y:Hid (∀ e w',(e=.returned (.bool false)/\Only [] w w')->R e w'):=by rw [<-hd];exact y
 clear hd;go_in;go_wp2_with fail;go_fit d;rintro e w1 ⟨rfl,z⟩;have HO:=aA z;clear z d;go_wp2;exact y.o _ _ ⟨rfl,HO.o⟩
end
set_option maxHeartbeats 12800000
def jL (F:Nat->Nat->Value):Nat->List Value
 | 0=>[]
 | m+1=>jL F m ++ [F m 0,F m 1,F m 2,F m 3,F m 4]
theorem aFg (F:Nat->Nat->Value) (m:Nat):jL F (m+1)=jL F m ++ [F m 0,F m 1,F m 2,F m 3,F m 4]:=rfl
theorem uZ (F:Nat->Nat->Value) (m:Nat):(jL F m).length=m*5:=by
 induction m with
 | zero=>rfl
 | succ m y=>unfold jL;rw [List.length_append,y];simp;omega
theorem aKH {F:Nat->Nat->Value} {m i j:Nat} (d:i<m) (y:j<5):(jL F m)[i*5+j]?=some (F i j):=by
 induction m with
 | zero=>omega
 | succ m z=>
  unfold jL
  by_cases e:i=m
  ·subst e;rw [List.getElem?_append_right (by rw [uZ];omega),uZ,show i*5+j - i*5=j by omega]
   match j,y with
   | 0,_=>rfl
   | 1,_=>rfl
   | 2,_=>rfl
   | 3,_=>rfl
   | 4,_=>rfl
   | j+5,y=>omega
  rw [List.getElem?_append_left (by rw [uZ];omega)];exact z (by omega)
theorem aDN {F G:Nat->Nat->Value} {m:Nat} (h:∀ i,i<m->∀ j,F i j=G i j):jL F m=jL G m:=by
 induction m with
 | zero=>rfl
 | succ m y=>unfold jL;rw [y (fun i z=>h i (by omega)),h m (by omega),h m (by omega),h m (by omega),h m (by omega),h m (by omega)]
theorem mY.aQh {w w':World} {v:Value} {l:List Int} (h:mY w v l) (e:Only [] w w'):mY w' v l:=by
 rcases h with ⟨b,o,c,y,z⟩|y
 ·exact .inl ⟨b,o,c,y,fun i d=>e.cell (z i d) (by simp)⟩
 exact .inr y
structure GPt (w:World) (base:Nat) (L:Nat->Option Gb) (rv sv bv:Int->Value) (ogv:Value) (ob:Int->Option Th) (m:Nat):Prop where
 row:w.ownsRow base 217 5 ogv m (jL (fun i j=>oI (ob i) (rv i) (sv i) (bv i) j) m)
 og:∀ g,ogv.ownBlock=some g->L g=none
 lt:∀ k,L k≠none->base<=k/\k<w.heap.size
 th:∀ i:Nat,i<m->∀ o,ob i=some o->GTh w L i (rv i) (sv i) (bv i) o
section
variable {w w':World} {base:Nat} {L:Nat->Option Gb} {rv sv bv:Int->Value} {ogv aRr r s b:Value} {ob:Int->Option Th} {m:Nat}
theorem GPt.nil (w:World) (base:Nat) (ob:Int->Option Th):GPt w base (fun _=>none) (fun _=>.slice none 0 0) (fun _=>.slice none 0 0) (fun _=>.slice none 0 0) (.slice none 0 0) ob 0:=
 ⟨World.ownsRow_nil _ _ _ _,fun g y=>rfl,fun k hk=>absurd rfl hk,fun i hi=>by omega⟩
theorem GPt.next (h:GPt w base L rv sv bv ogv ob m) (x7:base<=w.heap.size) (hO:aI (fun k=>ogv.ownBlock=some k\/k<base) w w')
  (x1:w'.ownsRow base 217 5 aRr (m+1) (jL (fun i j=>oI (ob i) (rv i) (sv i) (bv i) j) m ++ [oI (ob m) r s b 0,oI (ob m) r s b 1,oI (ob m) r s b 2,oI (ob m) r s b 3,oI (ob m) r s b 4]))
  (h6:∀ k,r.ownBlock=some k->w.heap.size<=k/\k<w'.heap.size) (h7:∀ k,s.ownBlock=some k->w.heap.size<=k/\k<w'.heap.size) (h0:∀ k,b.ownBlock=some k->w.heap.size<=k/\k<w'.heap.size)
  (x3:∀ g,aRr.ownBlock=some g->ogv.ownBlock=some g\/(w.heap.size<=g/\r.ownBlock≠some g/\s.ownBlock≠some g/\b.ownBlock≠some g))
  (x4:∀ o,ob m=some o->Bls w' 0 r o.refs/\aN w' 0 s o.slots/\aN w' 0 b o.blocks)
  (d1:∀ g,r.ownBlock=some g->s.ownBlock≠some g/\b.ownBlock≠some g) (d2:∀ g,s.ownBlock=some g->b.ownBlock≠some g) :
  ∃ d x5 x6 x2,GPt w' base d x5 x6 x2 aRr ob (m+1):=by
 obtain ⟨d,y⟩:∃ d:Nat->Option Gb,d=fun k=>if r.ownBlock=some k then some (.rb m) else if s.ownBlock=some k then some (.sl m) else if b.ownBlock=some k then some (.bl m) else L k:=⟨_,rfl⟩;have h8:∀ k,L k≠none->d k=L k:=fun k hk=>by
  have:=h.lt k hk;rw [y];simp only;rw [if_neg (fun e=>by have:=h6 k e;omega),if_neg (fun e=>by have:=h7 k e;omega),if_neg (fun e=>by have:=h0 k e;omega)]
 have h9:∀ k,d k≠none->L k≠none\/(w.heap.size<=k/\k<w'.heap.size):=fun k hk=>by
  rw [y] at hk;simp only at hk
  by_cases e1:r.ownBlock=some k
  ·exact .inr (h6 k e1)
  rw [if_neg e1] at hk
  by_cases e2:s.ownBlock=some k
  ·exact .inr (h7 k e2)
  rw [if_neg e2] at hk
  by_cases e3:b.ownBlock=some k
  ·exact .inr (h0 k e3)
  rw [if_neg e3] at hk;exact .inl hk
 refine ⟨d,fun k=>if k=m then r else rv k,fun k=>if k=m then s else sv k,fun k=>if k=m then b else bv k,?_,fun g z=>?_,fun k hk=>?_,fun i hi o ho=>?_⟩
 ·have e:jL (fun i j=>oI (ob i) (if (i:Int)=m then r else rv i) (if (i:Int)=m then s else sv i) (if (i:Int)=m then b else bv i) j) (m+1)=jL (fun i j=>oI (ob i) (rv i) (sv i) (bv i) j) m ++ [oI (ob m) r s b 0,oI (ob m) r s b 1,oI (ob m) r s b 2,oI (ob m) r s b 3,oI (ob m) r s b 4]:=by
   rw [aFg];simp only [if_true];congr 1;exact aDN (fun i hi j=>by
    have:¬ ((i:Int)=(m:Int)):=by omega
    simp only [if_neg this])
  rw [e];exact x1
 ·rcases x3 g z with h1|⟨h1,h2,h3,h4⟩
  ·have h2:=h.og g h1;have h3:=World.ownsRow.lt h.row g h1;rw [y];simp only;rw [if_neg (fun e=>by have:=h6 g e;omega),if_neg (fun e=>by have:=h7 g e;omega),if_neg (fun e=>by have:=h0 g e;omega)];exact h2
  have h5:L g=none:=by
   cases e:L g with
   | none=>rfl
   | some ℓ=>have:=h.lt g (by rw [e];simp);omega
  rw [y];simp only;rw [if_neg h2,if_neg h3,if_neg h4];exact h5
 ·rcases h9 k hk with e|e
  ·have:=h.lt k e;have:=hO.size;omega
  omega
 by_cases e:i=m
 ·subst e;simp only [if_true];obtain ⟨h1,h2,h3⟩:=x4 o ho;refine ⟨h1,fun g z=>?_,h2,fun g z=>?_,h3,fun g z=>?_⟩
  ·rw [y];simp only;rw [if_pos z]
  ·rw [y];simp only;rw [if_neg (fun e=>(d1 g e).1 z),if_pos z]
  rw [y];simp only;rw [if_neg (fun e=>(d1 g e).2 z),if_neg (fun e=>d2 g e z),if_pos z]
 have e2:¬ ((i:Int)=(m:Int)):=by omega
 simp only [if_neg e2];refine ((h.th i (by omega) o ho).only hO (fun x hx=>?_)).lab h8;have:L x=none:=by
  rcases hx with hx|hx
  ·exact h.og x hx
  cases e:L x with
  | none=>rfl
  | some ℓ=>have:=h.lt x (by rw [e];simp);omega
 rw [this];exact ⟨by simp,by simp,by simp⟩
theorem GPt.done {q k c l hb T:Nat} {P:Pl} {v:Nat} (h:GPt w base L rv sv bv ogv ob 193) (hk:∀ h o,ob h=some o->1<=h/\h<=192) (hp:fA w q k c l P) (hr:Row w hb T [ogv,.pointer (some ⟨q,0,none⟩)])
  (h1:v<=q/\v<=k/\v<=c/\v<=l/\v<=hb) (h2:q<base/\k<base/\c<base/\l<base/\hb<base) (d1:q≠hb/\k≠hb/\c≠hb/\l≠hb) :
  ∃ L' X',bJ w L' hb ⟨P,ob⟩ X'/\(∀ k,L' k≠none->v<=k):=by
 obtain ⟨n1,n2,n3,n4,n5,n6⟩:=hp.ne;obtain ⟨_,_,_,_,_,_,_,_,_,f1,f2,f3,f4⟩:=hp.facts;obtain ⟨e1,e2,e3,e4⟩:=d1;rcases h.row.2 with ⟨_,h0⟩|⟨d,oc,h6,rfl,x1,hh,h8,hm,hs,ht⟩
 ·omega
 have x2:=(Array.getElem?_eq_some_iff.1 hh).1;obtain ⟨L',y⟩:∃ L':Nat->Option Gb,L'=fun j=>if j=hb then some .mem else if j=d then some .objs else if j=q then some .pq else if j=k then some .pk else if j=c then some .pc else if j=l then some .pl else L j:=⟨_,rfl⟩;have h3:∀ j,L' j≠none->j=hb\/j=d\/j=q\/j=k\/j=c\/j=l\/L j≠none:=fun j z=>by
  rw [y] at z;simp only at z
  by_cases a1:j=hb
  ·exact .inl a1
  by_cases a2:j=d
  ·exact .inr (.inl a2)
  by_cases a3:j=q
  ·exact .inr (.inr (.inl a3))
  by_cases a4:j=k
  ·exact .inr (.inr (.inr (.inl a4)))
  by_cases a5:j=c
  ·exact .inr (.inr (.inr (.inr (.inl a5))))
  by_cases a6:j=l
  ·exact .inr (.inr (.inr (.inr (.inr (.inl a6)))))
  simp only [a1,a2,a3,a4,a5,a6,if_false] at z;exact .inr (.inr (.inr (.inr (.inr (.inr z)))))
 have h4:∀ j,L j≠none->L' j=L j:=fun j z=>by
  have h9:=h.lt j z;have h7:j≠d:=fun e=>z (by rw [e];exact h.og d rfl);rw [y];simp only;rw [if_neg (by omega),if_neg h7,if_neg (by omega),if_neg (by omega),if_neg (by omega),if_neg (by omega)]
 have h5:d≠hb/\q≠d/\k≠d/\c≠d/\l≠d:=⟨by omega,by omega,by omega,by omega,by omega⟩;obtain ⟨o1,o2,o3,o4,o5⟩:=h5;have x3:=hr.lt;refine ⟨L',⟨q,k,c,l,d,oc,rv,sv,bv⟩,⟨fun j z=>?_,⟨T,hr⟩,by rw [y];simp,hp,by rw [y];simp [*],by rw [y];simp [*,Ne.symm n1],by rw [y];simp [*,Ne.symm n2,Ne.symm n4],by rw [y];simp [*,Ne.symm n3,Ne.symm n5,Ne.symm n6],⟨217,h6.toList,?_,fun i hi j z=>?_⟩,by rw [y];simp [*],fun x o hx=>?_⟩,fun j z=>?_⟩
 ·rcases h3 j z with rfl|rfl|rfl|rfl|rfl|rfl|e
  ·assumption
  ·assumption
  ·assumption
  ·assumption
  ·assumption
  ·assumption
  exact (h.lt j e).2
 ·unfold Row;rw [hh]
 ·have hg:=aKH (F:=fun i j=>oI (ob i) (rv i) (sv i) (bv i) j) hi z;rw [<-ht,List.getElem?_take_of_lt (by omega)] at hg;exact hg
 ·obtain ⟨a1,a2⟩:=hk x o hx;obtain ⟨i,rfl⟩:∃ i:Nat,x=i:=⟨x.toNat,by omega⟩;exact (h.th i (by omega) o hx).lab h4
 rcases h3 j z with rfl|rfl|rfl|rfl|rfl|rfl|e
 ·exact h1.2.2.2.2
 ·omega
 ·exact h1.1
 ·exact h1.2.1
 ·exact h1.2.2.1
 ·exact h1.2.2.2.1
 have:=(h.lt j e).1;omega
end
theorem zT {wr wX wY w4:World} {L:Nat->Option Gb} {rv sv bv:Int->Value} {ob:Int->Option Th} {m c T gg y:Nat} {z x9 r s b:Value} {h1:List Value} (x8:GPt wr w4.heap.size L rv sv bv z ob m) (hc:c<w4.heap.size) (y0:Row wr c T [z,x9]) (h4:Only [c] w4 wr) (hX:Only [] wr wX)
  (y3:h1=[oI (ob m) r s b 0,oI (ob m) r s b 1,oI (ob m) r s b 2,oI (ob m) r s b 3,oI (ob m) r s b 4])
  (h9:wY.ownsRow w4.heap.size 217 5 (.slice (some ⟨gg,0,none⟩) (m+1) y) (m+1) (jL (fun i j=>oI (ob i) (rv i) (sv i) (bv i) j) m ++ h1))
  (h8:(wX.alloc (.cells h1.toArray 217)).drew.grownBy wY z.ownBlock) (y6:z.ownBlock=some gg\/gg=wX.heap.size+1) (z3:gg<wY.heap.size)
  (h6:∀ k,r.ownBlock=some k->wr.heap.size<=k/\k<wX.heap.size) (h7:∀ k,s.ownBlock=some k->wr.heap.size<=k/\k<wX.heap.size) (h5:∀ k,b.ownBlock=some k->wr.heap.size<=k/\k<wX.heap.size)
  (y9:∀ o,ob m=some o->Bls wX 0 r o.refs/\aN wX 0 s o.slots/\aN wX 0 b o.blocks)
  (d1:∀ g,r.ownBlock=some g->s.ownBlock≠some g/\b.ownBlock≠some g) (d2:∀ g,s.ownBlock=some g->b.ownBlock≠some g) :
  ∃ L' x6 x7 x2,GPt (wY.setCell ⟨c,0,none⟩ (.slice (some ⟨gg,0,none⟩) (m+1) y)) w4.heap.size L' x6 x7 x2 (.slice (some ⟨gg,0,none⟩) (m+1) y) ob (m+1)/\
   Row (wY.setCell ⟨c,0,none⟩ (.slice (some ⟨gg,0,none⟩) (m+1) y)) c T [.slice (some ⟨gg,0,none⟩) (m+1) y,x9]/\Only [c] w4 (wY.setCell ⟨c,0,none⟩ (.slice (some ⟨gg,0,none⟩) (m+1) y)):=by
 have x4:=World.ownsRow.lt x8.row;have y8:=h4.size;have z2:=hX.size;have y5:Only [] wr (wX.alloc (.cells h1.toArray 217)).drew:=(hX.alloc _).drew;have z1:=h8.size;have z0:(wX.alloc (.cells h1.toArray 217)).drew.heap.size=wX.heap.size+1:=by simp
 have x1:Only z.ownBlock.toList (wX.alloc (.cells h1.toArray 217)).drew wY:=(Only.refl _ _).grown h8 (fun k d=>.inl (by rw [d];simp));have h3:∀ x,x∈z.ownBlock.toList->z.ownBlock=some x:=fun x hx=>by simpa using hx
 have x5:Only z.ownBlock.toList wr wY:=(y5.mono (G:=z.ownBlock.toList) (by simp)).trans x1 (fun x hx=>.inl hx);have y7:c∉z.ownBlock.toList:=fun hx=>by have:=(x4 c (h3 c hx)).1;omega
 have y2:=x5.row y0 y7;have h2:∀ k,wr.heap.size<=k->k∉z.ownBlock.toList:=fun k d hx=>by have:=(x4 k (h3 k hx)).2;omega
 have x3:∀ k,wr.heap.size<=k->k∉[c]:=fun k d hx=>by simp at hx;omega
 have h0:Only [c] wY (wY.setCell ⟨c,0,none⟩ (.slice (some ⟨gg,0,none⟩) (m+1) y)):=(Only.refl _ _).set (p:=⟨c,0,none⟩) (.inl (by simp)) _;obtain ⟨L',x6,x7,x2,hN⟩:=x8.next (w':=wY.setCell ⟨c,0,none⟩ (.slice (some ⟨gg,0,none⟩) (m+1) y)) (aRr:=.slice (some ⟨gg,0,none⟩) (m+1) y) (r:=r) (s:=s) (b:=b) y8
  ((x5.toP (S:=fun k=>z.ownBlock=some k\/k<w4.heap.size) (fun x hx=>.inl (.inl (h3 x hx)))).set (p:=⟨c,0,none⟩) (.inl (.inr hc)) _)
  (by
   rw [<-y3];refine ⟨h9.1,h9.2.imp id (fun ⟨g,cap,y4,hv,hg,hh,y1⟩=>⟨g,cap,y4,hv,hg,?_,y1⟩)⟩;rw [h0.block g (Array.getElem?_eq_some_iff.1 hh).1 (by simp;omega)];exact hh)
  (fun k d=>⟨(h6 k d).1,by have:=h6 k d;have:=h0.size;omega⟩) (fun k d=>⟨(h7 k d).1,by have:=h7 k d;have:=h0.size;omega⟩) (fun k d=>⟨(h5 k d).1,by have:=h5 k d;have:=h0.size;omega⟩)
  (fun g hg=>by
   obtain rfl:gg=g:=by simpa [Value.ownBlock] using hg
   rcases y6 with e|e
   ·exact .inl e
   exact .inr ⟨by omega,fun x=>by have:=h6 _ x;omega,fun x=>by have:=h7 _ x;omega,fun x=>by have:=h5 _ x;omega⟩)
  (fun o ho=>by
   obtain ⟨a1,a2,a3⟩:=y9 o ho;exact ⟨(((a1.alloc (.cells h1.toArray 217)).drew.only x1 (fun k d=>h2 k (h6 k d).1)).only h0 (fun k d=>x3 k (h6 k d).1)),
    (((a2.alloc (.cells h1.toArray 217)).drew.only x1 (fun k d=>h2 k (h7 k d).1)).only h0 (fun k d=>x3 k (h7 k d).1)),
    (((a3.alloc (.cells h1.toArray 217)).drew.only x1 (fun k d=>h2 k (h5 k d).1)).only h0 (fun k d=>x3 k (h5 k d).1))⟩) d1 d2
 exact ⟨L',x6,x7,x2,hN,y2.set 0 _,(h4.trans x5 (fun x hx=>.inr (x4 x (h3 x hx)).1)).set (p:=⟨c,0,none⟩) (.inl (by simp)) _⟩
theorem xH {w:World} {ops:Array Oper} {y:List Oper} {o:Oper} {a:Act} {Q:Exit->Act->World->Prop} (z:o.guard=none) (s x:Operand)
  (ho:o.op=.call { callee:=.builtin .append,args:=#[s,x],argTypes:=#[50,50] }) (w0:World) (hO:Only [] w0 w)
  (e:Nat) (hs:a.eval s=.slice (some ⟨e,0,none⟩) 0 0) (d:Bls w w0.heap.size (.slice (some ⟨e,0,none⟩) 0 0) []) (va:Option Addr) (n vc:Nat) (l:List Bool) (hx:a.eval x=.slice va n vc) (hl:l.length=n) (hv:aBt w0 (.slice va n vc) l) (hb:n<=1000000)
  (h:∀ g cap w',Hid (Bls w' w0.heap.size (.slice (some ⟨g,0,none⟩) n cap) l)->Hid (Only [] w0 w')->wpList prog ops Q y (a.put o.dst (.slice (some ⟨g,0,none⟩) n cap)) w'):wpList prog ops Q (o :: y) a w:=by
 refine wpList_plain z fun K hK=>?_;have h1:=rC (ops:=ops) (K:=K) (Q:=Q) (E:=True) z s x ho w0 hO e hs d va n vc l hx hl hv hb (fun g cap w' k1 k2 _ _=>hK _ _ (h g cap w' k1 k2));rwa [if_pos (by simp [Region.wanted,z])] at h1
theorem gU {w:World} {ops:Array Oper} {e:List Oper} {o:Oper} {a:Act} {Q:Exit->Act->World->Prop} (h8:o.guard=none) (s x:Operand)
  (ho:o.op=.call { callee:=.builtin .append,args:=#[s,x],argTypes:=#[23,23] }) (w0:World) (hO:Only [] w0 w)
  (gs:Nat) (hs:a.eval s=.slice (some ⟨gs,0,none⟩) 0 0) (z:aN w w0.heap.size (.slice (some ⟨gs,0,none⟩) 0 0) []) (va:Option Addr) (n vc:Nat) (l:List Int) (hx:a.eval x=.slice va n vc) (hl:l.length=n) (hv:mY w0 (.slice va n vc) l) (hb:n<=1000000)
  (h:∀ g cap w',Hid (aN w' w0.heap.size (.slice (some ⟨g,0,none⟩) n cap) l)->Hid (Only [] w0 w')->wpList prog ops Q e (a.put o.dst (.slice (some ⟨g,0,none⟩) n cap)) w'):wpList prog ops Q (o :: e) a w:=by
 refine wpList_plain h8 fun K hK=>?_;obtain ⟨i0,h5,h9,x1,x2⟩:=info_parts jO
 by_cases h0:n=0
 ·subst h0;have h6:l=[]:=List.eq_nil_of_length_eq_zero hl;subst h6;have h7:Src prog i0.size 23 (.slice va 0 vc) 0 [] w:=by
   cases va with
   | none=>exact Src.ofNil w Tryz.underlying23 vc
   | some a=>exact Src.ofSlice w Tryz.underlying23 a 0 vc [] (by simp) (fun j u d=>by simp at d) (fun u d=>by simp at d)
  have hr:=run_append_nothing (P:=prog) w 23 23 o.type 3 i0 Tryz.underlying23 h5 (some ⟨gs,0,none⟩) 0 0 (Nat.le_refl _) (.slice va 0 vc) h7;unfold Oper.wp execOp;simp only [ho,resolve,invoke,builtin,Sem.run_bind,Sem.run_pure,Result.andThen_ok,List.map_toArray,List.map_cons,List.map_nil,hs,hx,hr];exact hK _ _ (h gs 0 w z hO)
 rcases hv with ⟨rb,ro,rc,e1,e2⟩|⟨oa,rc,e1,e2⟩
 ·simp only [Value.slice.injEq] at e1;obtain ⟨rfl,_,rfl⟩:=e1;refine wp_append_lies _ s x 23 ho w0.heap.size 3 i0 _ 1 8 Tryz.underlying23 h5 h9 x1 x2 rfl (by omega) _ 0 [] hs z ⟨rb,ro,none⟩ n vc (l.map (.int .i64)) hx (by simp [hl]) (fun j u d=>?_) (fun u d=>?_) (by omega) (by simp only [maxLen];omega) (by omega) hO.size w.heap.size rfl ?_
  ·simp only [List.getElem?_map,Option.map_eq_some_iff] at d;obtain ⟨y,hy,rfl⟩:=d;have hj:=(List.getElem?_eq_some_iff.1 hy).1;have:=e2 j hj;rw [gI,hy] at this;rw [dN];exact hO.cell this (by simp)
  ·simp only [List.mem_map] at d;obtain ⟨y,_,rfl⟩:=d;rfl
  intro g cap w' h1 h2 h3 h4;rw [Nat.zero_add] at h1 ⊢;refine hK _ _ (h g cap w' ?_ (hO.grown h2 (fun k hk=>.inr (z.own k hk).1)));show aN _ _ _ _;unfold aN;rw [hl];simpa using h1
 exact absurd (by rw [<-hl,e2];rfl) h0
section
variable {L:Nat->Option Gb} {hb:Nat} {M:Hp} {X:GX}
theorem aDM (w:World) (h:bJ w L hb M X) (hk:M.Ok):Calls prog 111 #[.pointer (some ⟨hb,0,none⟩)] w fun e w'=>
  ∃ q L' X',e=.returned (.pointer (some ⟨q,0,none⟩))/\bJ w' L' q M X'/\(∀ k,L' k≠none->w.heap.size<=k)/\Only [] w w':=by
 refine aF fun R hR=>?_;have h1:=fM w h;have c1:=h.cells.2.1;have h2:=nS w X.q X.k X.c X.l M.P h.pool;have H:=aA h;have HK:=aA hk;clear h hk;go_in;go_wp2_with fail;go_fit h1;rintro e _ ⟨rfl,rfl⟩;clear h1;go_wp2_with fail;go_fit h2;rintro e w3 ⟨q',k',c',l',rfl,hp,ho,u1,u2,u3,u4⟩;have f2:=aA hp;have b3:=aA ho;obtain ⟨_,_,_,_,_,_,_,_,_,v1,v2,v3,v4⟩:=hp.facts;have x7:Hid (w.heap.size<=q'/\w.heap.size<=k'/\w.heap.size<=c'/\w.heap.size<=l'/\q'<w3.heap.size/\k'<w3.heap.size/\c'<w3.heap.size/\l'<w3.heap.size):=⟨u1,u2,u3,u4,v1,v2,v3,v4⟩;clear h2 hp ho u1 u2 u3 u4 v1 v2 v3 v4 c1;go_wp2_with fail;have b6:Hid (Row (w3.alloc (.cells #[.slice none 0 0,.pointer (some ⟨q',0,none⟩)] 209)) w3.heap.size 209 [.slice none 0 0,.pointer (some ⟨q',0,none⟩)]):=Row.new w3 _ [_,_];have d9:Hid (Only [] w3 (w3.alloc (.cells #[.slice none 0 0,.pointer (some ⟨q',0,none⟩)] 209))):=(Only.refl _ _).alloc _;have b4:Hid ((w3.alloc (.cells #[.slice none 0 0,.pointer (some ⟨q',0,none⟩)] 209)).heap.size=w3.heap.size+1):=by show _=_;simp
 generalize w3.alloc (.cells #[.slice none 0 0,.pointer (some ⟨q',0,none⟩)] 209)=w4 at*;obtain ⟨c,hc⟩:∃ z,z=w3.heap.size:=⟨_,rfl⟩;rw [<-hc] at b6 b4 x7 ⊢;have HC:=aA hc;clear hc;go_loopw [4] (fun iv wr=>∃ (m:Nat) (L':Nat->Option Gb) (rv sv bv:Int->Value) (b0:Value),m<=193/\iv=.int .i64 m/\GPt wr w4.heap.size L' rv sv bv b0 M.ob m/\Row wr c 209 [b0,.pointer (some ⟨q',0,none⟩)]/\Only [c] w4 wr) (fun iv _=>193 - (intOf iv).toNat)
 case atStart=>exact ⟨0,_,_,_,_,_,by omega,rfl,GPt.nil _ _ _,b6.o,Only.refl _ _⟩
 case round=>
  clear b6;obtain ⟨m,L',rv,sv,bv,b0,hm,rfl,d0,b1,ho⟩:=hrel;obtain ⟨y5,y6,rfl⟩:∃ a d,b0=.slice a m d:=by
   rcases d0.row.2 with ⟨e,h0⟩|⟨g,cap,a6,e,_⟩
   ·exact ⟨none,0,by rw [e,h0]⟩
   exact ⟨_,_,e⟩
  have z0:=aA d0;have x5:=aA b1;have HO:=aA ho;have d7:Hid (Only [] w wr):=(b3.o.trans d9.o (by simp)).trans ho (fun x hx=>.inr (by simp at hx;rw [hx,HC.o];exact b3.o.size));have HG:=aA (H.o.aK d7.o);have c0:=HG.o.cells.1;clear d0 b1 ho
  by_cases x9:m<193
  ·have e7:(m:Int)<193:=by omega
   have i4:(0:Int)<=m:=by omega
   have x2:Hid (w4.heap.size<=wr.heap.size/\c<w4.heap.size):=⟨HO.o.size,by have:=b4.o;omega⟩;obtain ⟨i0,e1,e3,e4,e5⟩:=info_parts aKa;have I0:=aA e1;have I1:=aA e3;have I2:=aA e4;have I3:=aA e5;clear e1 e3 e4 e5
   cases h9:M.ob (m:Int) with
   | none=>
    have o0:=HG.o.obj x9 (j:=0) (by omega);have o1:=HG.o.obj x9 (j:=1) (by omega);have o2:=HG.o.obj x9 (j:=2) (by omega);have o3:=HG.o.obj x9 (j:=3) (by omega);have o4:=HG.o.obj x9 (j:=4) (by omega);rw [h9] at o0 o1 o2 o3 o4;replace o0:wr.cell? ⟨X.og,m*5,none⟩=some (.int .i64 0):=o0;replace o1:wr.cell? ⟨X.og,m*5+1,none⟩=some (.int .i64 0):=o1;replace o2:wr.cell? ⟨X.og,m*5+2,none⟩=some (.slice none 0 0):=o2;replace o3:wr.cell? ⟨X.og,m*5+3,none⟩=some (.slice none 0 0):=o3;replace o4:wr.cell? ⟨X.og,m*5+4,none⟩=some (.slice none 0 0):=o4;obtain ⟨og,z9⟩:∃ z,z=X.og:=⟨_,rfl⟩;rw [<-z9] at c0 o0 o1 o2 o3 o4;have y9:=aA h9;have h5:Hid (Row (wr.alloc (.cells #[.int .i64 0,.int .i64 0,.slice none 0 0,.slice none 0 0,.slice none 0 0] 217)) wr.heap.size 217 [.int .i64 0,.int .i64 0,.slice none 0 0,.slice none 0 0,.slice none 0 0]):=Row.new wr _ [_,_,_,_,_];have h8:Hid (Only [] wr (wr.alloc (.cells #[.int .i64 0,.int .i64 0,.slice none 0 0,.slice none 0 0,.slice none 0 0] 217))):=(Only.refl _ _).alloc _;have x3:Hid (wr.heap.size<(wr.alloc (.cells #[.int .i64 0,.int .i64 0,.slice none 0 0,.slice none 0 0,.slice none 0 0] 217)).heap.size):=by show _<_;simp
    have y0:=h5.o.cell 0 rfl;have y1:=h5.o.cell 1 rfl;have y2:=h5.o.cell 2 rfl;have y3:=h5.o.cell 3 rfl;have y4:=h5.o.cell 4 rfl;have x0:(wr.alloc (.cells #[.int .i64 0,.int .i64 0,.slice none 0 0,.slice none 0 0,.slice none 0 0] 217)).cell? ⟨c,0,none⟩=some (.slice y5 m y6):=(h8.o.row x5.o (by simp)).cell 0 rfl;clear h9 z9;go_wp2_with fail;generalize wr.alloc (.cells #[.int .i64 0,.int .i64 0,.slice none 0 0,.slice none 0 0,.slice none 0 0] 217)=wX at*;obtain ⟨y,hy⟩:∃ z,z=wr.heap.size:=⟨_,rfl⟩;have HY:=aA hy;rw [<-hy] at h5 x3 y0 y1 y2 y3 y4 ⊢;clear hy c0 o0 o1 o2 o3 o4;have x6:c<wX.heap.size:=by have:=x2.o;have:=h8.o.size;omega
    have d3:y<wX.heap.size:=x3.o;have z4:Hid (wX.ownsRow w4.heap.size 217 5 (.slice y5 m y6) m (jL (fun i j=>oI (M.ob i) (rv i) (sv i) (bv i) j) m)):=by
     have h0:=z0.o.row;refine ⟨h0.1,h0.2.imp id (fun ⟨g,cap,a6,hv,hg,hh,r⟩=>⟨g,cap,a6,hv,hg,?_,r⟩)⟩;rw [h8.o.block g (Array.getElem?_eq_some_iff.1 hh).1 (by simp)];exact hh
    have z8:∀ g,(Value.slice y5 m y6).ownBlock=some g->c≠g:=fun g hg e=>by have:=(World.ownsRow.lt z4.o g hg).1;have:=x2.o;omega
    have xf:=(h8.o.row x5.o (by simp)).free 0;have b2:Hid (w4.heap.size<=wX.heap.size):=Nat.le_trans x2.o.1 h8.o.size;have f8:=aA d3;have y7:=aA x6;go_wp2;go_region_law ((refine step_append_lies _ (by rfl) _ _ 207 (by rfl) w4.heap.size 217 i0 _ 5 88 Tryz.underlying207 I0.o I1.o I2.o I3.o rfl (by omega) _ m _ (by rfl) ((z4.o.alloc _).drew) ⟨wX.heap.size,0,none⟩ 1 1 [.int .i64 0,.int .i64 0,.slice none 0 0,.slice none 0 0,.slice none 0 0] (by rfl) (by rfl) (World.news_of_block (cs:=#[.int .i64 0,.int .i64 0,.slice none 0 0,.slice none 0 0,.slice none 0 0]) (t:=217) (fr:=(0,0)) (heap_alloc_new wX _)) (by simp [Value.oneCell']) (by omega) (by simp only [maxLen];omega) (by omega) (by have:=b2.o;simp;omega) (wX.heap.size+1) (by simp) ?_;intro gg e6 wY x1 h6 z7 x4;have c4:=(h6.cell_far ⟨c,0,none⟩ (by have:=y7.o;simp;omega) (fun e=>z8 c e.symm rfl)).trans (by simp [World.cell?_alloc_past _ _ _ x6];exact x0);have c5:=(h6.frozen_far ⟨c,0,none⟩ (by have:=y7.o;simp;omega) (fun e=>z8 c e.symm rfl)).trans (by simp [World.frozen?_alloc_past _ _ _ x6];exact xf)))
    all_goals
     obtain ⟨L9,d5,d6,c3,z1,z2,z3⟩:=zT (r:=.slice none 0 0) (s:=.slice none 0 0) (b:=.slice none 0 0) z0.o x2.o.2 x5.o HO.o h8.o (by rw [y9.o];rfl) x1 h6 z7 x4
      (fun k hk=>by cases hk) (fun k hk=>by cases hk) (fun k hk=>by cases hk) (fun o ho=>by rw [y9.o] at ho;cases ho) (fun g hg=>by cases hg) (fun g hg=>by cases hg)
     have Z1:=aA z1;have Z2:=aA z2;have Z3:=aA z3;clear z1 z2 z3 x1 h6 z7 x4 c4 c5;go_wp2;exact ⟨⟨m+1,L9,d5,d6,c3,_,by omega,by go_num,Z1.o,Z2.o,Z3.o⟩,by simp [intOf];omega⟩
   | some o=>
    obtain ⟨o0,o1,o2,o3,o4⟩:=HG.o.iW x9 h9;have th:=HG.o.th (m:Int) o h9;obtain ⟨ra,rc,re⟩:=th.rb.len;obtain ⟨sa,sc,se⟩:=th.sl.len;obtain ⟨ba,bc,be⟩:=th.bl.len;have a8:=th.rb;have a9:=th.sl;have a7:=th.bl;rw [re] at o2 a8;rw [se] at o3 a9;rw [be] at o4 a7;have g4:(o.kind != 0)=true:=by
     have:=(HK.o.th _ o h9).kd;simp;omega
    have g5:=(HK.o.th _ o h9).le;have g7:=(HK.o.th _ o h9).rl;have g0:=(HK.o.aCn h9).2.1;obtain ⟨rn,d1⟩:∃ z,z=o.refs.length:=⟨_,rfl⟩;obtain ⟨sn,d2⟩:∃ z,z=o.slots.length:=⟨_,rfl⟩;obtain ⟨bn,c6⟩:∃ z,z=o.blocks.length:=⟨_,rfl⟩;obtain ⟨kd,b8⟩:∃ z,z=o.kind:=⟨_,rfl⟩;obtain ⟨cl,b7⟩:∃ z,z=o.cls:=⟨_,rfl⟩;have g6:rn<=1000000:=by omega
    have g8:sn<=1000000:=by omega
    have f9:bn<=1000000:=by omega
    rw [<-d1] at o2 a8;rw [<-d2] at o3 a9;rw [<-c6] at o4 a7;rw [<-b8] at o0 g4;rw [<-b7] at o1;have f5:Hid (o.refs.length=rn):=d1.symm;have f7:Hid (o.slots.length=sn):=d2.symm;have e9:Hid (o.blocks.length=bn):=c6.symm;have f1:Hid (o.kind=kd):=b8.symm;have f0:Hid (o.cls=cl):=b7.symm;have y9:=aA h9;have f4:=aA a8;have f6:=aA a9;have e8:=aA a7;obtain ⟨og,z9⟩:∃ z,z=X.og:=⟨_,rfl⟩;rw [<-z9] at c0 o0 o1 o2 o3 o4;have a5:Hid (Row (wr.alloc (.cells #[.int .i64 kd,.int .i64 cl,.slice ra rn rc,.slice sa sn sc,.slice ba bn bc] 217)) wr.heap.size 217 [.int .i64 kd,.int .i64 cl,.slice ra rn rc,.slice sa sn sc,.slice ba bn bc]):=Row.new wr _ [_,_,_,_,_];have d8:Hid (Only [] wr (wr.alloc (.cells #[.int .i64 kd,.int .i64 cl,.slice ra rn rc,.slice sa sn sc,.slice ba bn bc] 217))):=(Only.refl _ _).alloc _;have b5:Hid (wr.heap.size<(wr.alloc (.cells #[.int .i64 kd,.int .i64 cl,.slice ra rn rc,.slice sa sn sc,.slice ba bn bc] 217)).heap.size):=by show _<_;simp
    have y0:=a5.o.cell 0 rfl;clear h9 z9 th re se be a8 a9 a7 d1 d2 c6 b8 b7 g5 g7 g0;go_upto_region 9 with fail;generalize wr.alloc (.cells #[.int .i64 kd,.int .i64 cl,.slice ra rn rc,.slice sa sn sc,.slice ba bn bc] 217)=wa at*;obtain ⟨y,hy⟩:∃ z,z=wr.heap.size:=⟨_,rfl⟩;have HY:=aA hy;rw [<-hy] at a5 b5 ⊢;have yA:(wa.alloc (.cells #[] 4)).cell? ⟨y,2,none⟩=some (.slice ra rn rc):=(a5.o.alloc _).cell 2 rfl;clear hy y0 c0 o0 o1 o2 o3 o4;go_wp2_with (at_builtin;refine xH rfl _ _ rfl wa ((Only.refl _ _).alloc _) _ rfl (Bls.made _) ra rn rc o.refs rfl f5.o ?q1 g6 ?q2)
    case q1=>exact f4.o.aRA.only d8.o
    case q2=>
     intro g1 h3 w5 k1 k2;clear yA;have a2:Hid (Row w5 y 217 [.int .i64 kd,.int .i64 cl,.slice ra rn rc,.slice sa sn sc,.slice ba bn bc]):=k2.o.row a5.o (by simp);have c7:=(k1.o.own g1 rfl);have h5:Hid (Row (w5.setCell ⟨y,2,none⟩ (.slice (some ⟨g1,0,none⟩) rn h3)) y 217 [.int .i64 kd,.int .i64 cl,.slice (some ⟨g1,0,none⟩) rn h3,.slice sa sn sc,.slice ba bn bc]):=a2.o.set 2 _;have x3:Hid (Only [y] w5 (w5.setCell ⟨y,2,none⟩ (.slice (some ⟨g1,0,none⟩) rn h3))):=(Only.refl _ _).set (p:=⟨y,2,none⟩) (.inl (by simp)) _;have c2:Hid (Only [] wr (w5.setCell ⟨y,2,none⟩ (.slice (some ⟨g1,0,none⟩) rn h3))):=(d8.o.trans k2.o (by simp)).set (p:=⟨y,2,none⟩) (.inr (by rw [HY.o];exact Nat.le_refl _)) _;have B6:Hid (Bls (w5.setCell ⟨y,2,none⟩ (.slice (some ⟨g1,0,none⟩) rn h3)) wa.heap.size (.slice (some ⟨g1,0,none⟩) rn h3) o.refs):=k1.o.only x3.o (fun k hk=>by cases hk;have:=b5.o;simp;omega);have i1:=a2.o.free 2;have g9:=a2.o.cell 2 rfl;have yB:((w5.setCell ⟨y,2,none⟩ (.slice (some ⟨g1,0,none⟩) rn h3)).alloc (.cells #[] 3)).cell? ⟨y,3,none⟩=some (.slice sa sn sc):=(h5.o.alloc _).cell 3 rfl;have x8:Hid (wa.heap.size<=g1/\g1<(w5.setCell ⟨y,2,none⟩ (.slice (some ⟨g1,0,none⟩) rn h3)).heap.size/\y<wa.heap.size):=⟨c7.1,Nat.lt_of_lt_of_le c7.2 x3.o.size,b5.o⟩;clear k1 k2 c7 x3 yB;go_upto_region 10 with fail;generalize w5.setCell ⟨y,2,none⟩ (.slice (some ⟨g1,0,none⟩) rn h3)=w6 at*;have yB:(w6.alloc (.cells #[] 3)).cell? ⟨y,3,none⟩=some (.slice sa sn sc):=(h5.o.alloc _).cell 3 rfl;go_wp2_with (at_builtin;refine gU rfl _ _ rfl w6 ((Only.refl _ _).alloc _) _ rfl (aN.made _) sa sn sc o.slots rfl f7.o ?q3 g8 ?q4)
     case q3=>exact f6.o.read.aQh c2.o
     case q4=>
      intro g2 h7 w7 k1 k2;clear i1 g9 yB a2;have a3:Hid (Row w7 y 217 [.int .i64 kd,.int .i64 cl,.slice (some ⟨g1,0,none⟩) rn h3,.slice sa sn sc,.slice ba bn bc]):=k2.o.row h5.o (by simp);have c8:=(k1.o.own g2 rfl);have d4:y<w6.heap.size:=h5.o.lt;have z6:Hid (Row (w7.setCell ⟨y,3,none⟩ (.slice (some ⟨g2,0,none⟩) sn h7)) y 217 [.int .i64 kd,.int .i64 cl,.slice (some ⟨g1,0,none⟩) rn h3,.slice (some ⟨g2,0,none⟩) sn h7,.slice ba bn bc]):=a3.o.set 3 _;have a1:Hid (Only [y] w7 (w7.setCell ⟨y,3,none⟩ (.slice (some ⟨g2,0,none⟩) sn h7))):=(Only.refl _ _).set (p:=⟨y,3,none⟩) (.inl (by simp)) _;have b9:Hid (Only [] wr (w7.setCell ⟨y,3,none⟩ (.slice (some ⟨g2,0,none⟩) sn h7))):=(c2.o.trans k2.o (by simp)).set (p:=⟨y,3,none⟩) (.inr (by rw [HY.o];exact Nat.le_refl _)) _;have B8:Hid (Bls (w7.setCell ⟨y,3,none⟩ (.slice (some ⟨g2,0,none⟩) sn h7)) wa.heap.size (.slice (some ⟨g1,0,none⟩) rn h3) o.refs):=(B6.o.only k2.o (by simp)).only a1.o (fun k hk=>by cases hk;have:=x8.o;simp;omega);have I8:Hid (aN (w7.setCell ⟨y,3,none⟩ (.slice (some ⟨g2,0,none⟩) sn h7)) w6.heap.size (.slice (some ⟨g2,0,none⟩) sn h7) o.slots):=k1.o.only a1.o (fun k hk=>by cases hk;simp;omega);have i3:=a3.o.free 3;have i2:=a3.o.cell 3 rfl;have yC:((w7.setCell ⟨y,3,none⟩ (.slice (some ⟨g2,0,none⟩) sn h7)).alloc (.cells #[] 3)).cell? ⟨y,4,none⟩=some (.slice ba bn bc):=(z6.o.alloc _).cell 4 rfl;have a0:Hid (wa.heap.size<=g1/\g1<w6.heap.size/\w6.heap.size<=g2/\g2<(w7.setCell ⟨y,3,none⟩ (.slice (some ⟨g2,0,none⟩) sn h7)).heap.size/\y<wa.heap.size/\wa.heap.size<=w6.heap.size):=⟨x8.o.1,x8.o.2.1,c8.1,Nat.lt_of_lt_of_le c8.2 a1.o.size,x8.o.2.2,by have:=x8.o;omega⟩;clear k1 k2 c8 a1 B6 x8 c2 d4 yC;go_upto_region 11 with fail;generalize w7.setCell ⟨y,3,none⟩ (.slice (some ⟨g2,0,none⟩) sn h7)=w8 at*;have yC:(w8.alloc (.cells #[] 3)).cell? ⟨y,4,none⟩=some (.slice ba bn bc):=(z6.o.alloc _).cell 4 rfl;go_wp2_with (at_builtin;refine gU rfl _ _ rfl w8 ((Only.refl _ _).alloc _) _ rfl (aN.made _) ba bn bc o.blocks rfl e9.o ?q5 f9 ?q6)
      case q5=>exact e8.o.read.aQh b9.o
      case q6=>
       intro g3 h4 w9 k1 k2;clear i3 i2 yC a3 h5;have a4:Hid (Row w9 y 217 [.int .i64 kd,.int .i64 cl,.slice (some ⟨g1,0,none⟩) rn h3,.slice (some ⟨g2,0,none⟩) sn h7,.slice ba bn bc]):=k2.o.row z6.o (by simp);have c9:=(k1.o.own g3 rfl);have d4:y<w8.heap.size:=z6.o.lt;have h5:Hid (Row (w9.setCell ⟨y,4,none⟩ (.slice (some ⟨g3,0,none⟩) bn h4)) y 217 [.int .i64 kd,.int .i64 cl,.slice (some ⟨g1,0,none⟩) rn h3,.slice (some ⟨g2,0,none⟩) sn h7,.slice (some ⟨g3,0,none⟩) bn h4]):=a4.o.set 4 _;have z5:Hid (Only [y] w9 (w9.setCell ⟨y,4,none⟩ (.slice (some ⟨g3,0,none⟩) bn h4))):=(Only.refl _ _).set (p:=⟨y,4,none⟩) (.inl (by simp)) _;have h8:Hid (Only [] wr (w9.setCell ⟨y,4,none⟩ (.slice (some ⟨g3,0,none⟩) bn h4))):=(b9.o.trans k2.o (by simp)).set (p:=⟨y,4,none⟩) (.inr (by rw [HY.o];exact Nat.le_refl _)) _;have BX:Hid (Bls (w9.setCell ⟨y,4,none⟩ (.slice (some ⟨g3,0,none⟩) bn h4)) wa.heap.size (.slice (some ⟨g1,0,none⟩) rn h3) o.refs):=(B8.o.only k2.o (by simp)).only z5.o (fun k hk=>by cases hk;have:=a0.o;simp;omega);have IX:Hid (aN (w9.setCell ⟨y,4,none⟩ (.slice (some ⟨g3,0,none⟩) bn h4)) w6.heap.size (.slice (some ⟨g2,0,none⟩) sn h7) o.slots):=(I8.o.only k2.o (by simp)).only z5.o (fun k hk=>by cases hk;have:=a0.o;simp;omega);have JX:Hid (aN (w9.setCell ⟨y,4,none⟩ (.slice (some ⟨g3,0,none⟩) bn h4)) w8.heap.size (.slice (some ⟨g3,0,none⟩) bn h4) o.blocks):=k1.o.only z5.o (fun k hk=>by cases hk;simp;omega);have i6:=a4.o.free 4;have i5:=a4.o.cell 4 rfl;have y8:Hid (wa.heap.size<=g1/\g1<w6.heap.size/\w6.heap.size<=g2/\g2<w8.heap.size/\w8.heap.size<=g3/\g3<(w9.setCell ⟨y,4,none⟩ (.slice (some ⟨g3,0,none⟩) bn h4)).heap.size/\y<wa.heap.size):=by
        have h2:=a0.o;exact ⟨h2.1,h2.2.1,h2.2.2.1,h2.2.2.2.1,c9.1,Nat.lt_of_lt_of_le c9.2 z5.o.size,h2.2.2.2.2.1⟩
       have x3:Hid (y<(w9.setCell ⟨y,4,none⟩ (.slice (some ⟨g3,0,none⟩) bn h4)).heap.size):=h5.o.lt;have y0:=h5.o.cell 0 rfl;have y1:=h5.o.cell 1 rfl;have y2:=h5.o.cell 2 rfl;have y3:=h5.o.cell 3 rfl;have y4:=h5.o.cell 4 rfl;have x0:(w9.setCell ⟨y,4,none⟩ (.slice (some ⟨g3,0,none⟩) bn h4)).cell? ⟨c,0,none⟩=some (.slice y5 m y6):=(h8.o.row x5.o (by simp)).cell 0 rfl;clear k1 k2 c9 z5 B8 I8 a0 b9 d4 z6 a4;go_upto_region 12 with fail;generalize (w9.setCell ⟨y,4,none⟩ (.slice (some ⟨g3,0,none⟩) bn h4))=wX at*;have x6:c<wX.heap.size:=by have:=x2.o;have:=h8.o.size;omega
       have d3:y<wX.heap.size:=x3.o;have z4:Hid (wX.ownsRow w4.heap.size 217 5 (.slice y5 m y6) m (jL (fun i j=>oI (M.ob i) (rv i) (sv i) (bv i) j) m)):=by
        have h0:=z0.o.row;refine ⟨h0.1,h0.2.imp id (fun ⟨g,cap,a6,hv,hg,hh,r⟩=>⟨g,cap,a6,hv,hg,?_,r⟩)⟩;rw [h8.o.block g (Array.getElem?_eq_some_iff.1 hh).1 (by simp)];exact hh
       have z8:∀ g,(Value.slice y5 m y6).ownBlock=some g->c≠g:=fun g hg e=>by have:=(World.ownsRow.lt z4.o g hg).1;have:=x2.o;omega
       have xf:=(h8.o.row x5.o (by simp)).free 0;have b2:Hid (w4.heap.size<=wX.heap.size):=Nat.le_trans x2.o.1 h8.o.size;have f8:=aA d3;have y7:=aA x6;go_wp2;go_region_law ((refine step_append_lies _ (by rfl) _ _ 207 (by rfl) w4.heap.size 217 i0 _ 5 88 Tryz.underlying207 I0.o I1.o I2.o I3.o rfl (by omega) _ m _ (by rfl) ((z4.o.alloc _).drew) ⟨wX.heap.size,0,none⟩ 1 1 [.int .i64 kd,.int .i64 cl,.slice (some ⟨g1,0,none⟩) rn h3,.slice (some ⟨g2,0,none⟩) sn h7,.slice (some ⟨g3,0,none⟩) bn h4] (by rfl) (by rfl) (World.news_of_block (cs:=#[.int .i64 kd,.int .i64 cl,.slice (some ⟨g1,0,none⟩) rn h3,.slice (some ⟨g2,0,none⟩) sn h7,.slice (some ⟨g3,0,none⟩) bn h4]) (t:=217) (fr:=(0,0)) (heap_alloc_new wX _)) (by simp [Value.oneCell']) (by omega) (by simp only [maxLen];omega) (by omega) (by have:=b2.o;simp;omega) (wX.heap.size+1) (by simp) ?_;intro gg e6 wY x1 h6 z7 x4;have c4:=(h6.cell_far ⟨c,0,none⟩ (by have:=y7.o;simp;omega) (fun e=>z8 c e.symm rfl)).trans (by simp [World.cell?_alloc_past _ _ _ x6];exact x0);have c5:=(h6.frozen_far ⟨c,0,none⟩ (by have:=y7.o;simp;omega) (fun e=>z8 c e.symm rfl)).trans (by simp [World.frozen?_alloc_past _ _ _ x6];exact xf)))
       all_goals
        obtain ⟨L9,d5,d6,c3,z1,z2,z3⟩:=zT (r:=.slice (some ⟨g1,0,none⟩) rn h3) (s:=.slice (some ⟨g2,0,none⟩) sn h7) (b:=.slice (some ⟨g3,0,none⟩) bn h4) z0.o x2.o.2 x5.o HO.o h8.o (by rw [y9.o,<-f1.o,<-f0.o];rfl) x1 h6 z7 x4
         (fun k hk=>by (obtain rfl:g1=k:=by simpa [Value.ownBlock] using hk);have:=y8.o;have:=HY.o;omega) (fun k hk=>by (obtain rfl:g2=k:=by simpa [Value.ownBlock] using hk);have:=y8.o;have:=HY.o;omega) (fun k hk=>by (obtain rfl:g3=k:=by simpa [Value.ownBlock] using hk);have:=y8.o;have:=HY.o;omega) (fun o' e2=>by rw [y9.o] at e2;cases e2;exact ⟨BX.o.base (Nat.zero_le _),IX.o.base (Nat.zero_le _),JX.o.base (Nat.zero_le _)⟩) (fun g hg=>by (obtain rfl:g1=g:=by simpa [Value.ownBlock] using hg);have:=y8.o;simp [Value.ownBlock];omega) (fun g hg=>by (obtain rfl:g2=g:=by simpa [Value.ownBlock] using hg);have:=y8.o;simp [Value.ownBlock];omega)
        have Z1:=aA z1;have Z2:=aA z2;have Z3:=aA z3;clear z1 z2 z3 x1 h6 z7 x4 c4 c5;go_wp2;exact ⟨⟨m+1,L9,d5,d6,c3,_,by omega,by go_num,Z1.o,Z2.o,Z3.o⟩,by simp [intOf];omega⟩
  obtain rfl:m=193:=by omega
  have e7:¬ ((193:Nat):Int)<193:=by omega
  have f3:=aA (((f2.o.only d9.o (by simp) (by simp) (by simp) (by simp)).only HO.o (by have:=x7.o;simp;omega) (by have:=x7.o;simp;omega) (by have:=x7.o;simp;omega) (by have:=x7.o;simp;omega)));have hb:=x7.o;have hs:=b4.o;have e0:w.heap.size<=c:=by rw [HC.o];exact b3.o.size
  obtain ⟨L9,X9,z1,z2⟩:=z0.o.done (v:=w.heap.size) HK.o.hr f3.o x5.o ⟨hb.1,hb.2.1,hb.2.2.1,hb.2.2.2.1,e0⟩ ⟨by omega,by omega,by omega,by omega,by omega⟩ ⟨by omega,by omega,by omega,by omega⟩;have Z1:=aA z1;have Z2:=aA z2;clear z1 z2 hb hs e0;go_wp2;exact hR.o _ _ ⟨c,L9,X9,rfl,Z1.o,Z2.o,d7.o⟩
end
set_option maxHeartbeats 6400000
theorem aJr (w:World):Calls prog 90 #[] w (fun e w'=>e=.returned (.pointer (some ⟨w.heap.size,0,none⟩))/\w'=w.alloc (.cells #[.slice none 0 0,.slice none 0 0,.int .i64 0,.int .i64 0,.slice none 0 0] 52)):=by
 refine aF fun R y=>?_;go_in;go_wp2;exact y.o _ _ ⟨rfl,rfl⟩
theorem aOi (w:World):aGw w (w.alloc (.cells #[.slice none 0 0,.slice none 0 0,.int .i64 0,.int .i64 0,.slice none 0 0] 52)) (TrA w.heap.size Tb.new):=
 ⟨(Only.refl [] w).alloc _,fun k=>k=w.heap.size\/(Value.slice none 0 0).ownBlock=some k\/(Value.slice none 0 0).ownBlock=some k\/(Value.slice none 0 0).ownBlock=some k,⟨.slice none 0 0,.slice none 0 0,.slice none 0 0,0,[],⟨⟨_,Row.new w _ _⟩,iP.nil _ _ _,aN.nil _ _,Bls.nil _ _,aAI.self _,⟨Nat.zero_le _,fun h=>by simp [Tb.new] at h⟩,fun g hg=>by (cases hg),fun g hg=>by (cases hg),fun e=>by (cases e)⟩,fun k=>Iff.rfl⟩,fun k y=>by
  rcases y with y|y|y|y
  ·omega
  ·cases y
  ·cases y
  cases y⟩
theorem aNV:(prog.info? 48).map (fun i=>(i.zero,i.size,i.bytes))=some (some (.agg #[.int .i64 0,.int .i64 0,.int .i64 0]),3,24):=by kernel_rfl
theorem aIt {w:World} {ops:Array Oper} {z:List Oper} {o:Oper} {a:Act} {Q:Exit->Act->World->Prop} (h6:o.guard=none) (s x:Operand)
  (ho:o.op=.call { callee:=.builtin .append,args:=#[s,x],argTypes:=#[49,49] })
  (v:Value) (l:List En) (hs:a.eval s=v) (h0:iP w 48 0 v l)
  (bk U:Nat) (y:En) (hx:a.eval x=.slice (some ⟨bk,0,none⟩) 1 1) (d:Row w bk U (enC y)) (h4:l.length<=1000000)
  (h:∀ e w',iP w' 48 0 e (l ++ [y])->Only v.ownBlock.toList w w'->(e.ownBlock=v.ownBlock\/e.ownBlock=some w.heap.size)->wpList prog ops Q z (a.put o.dst e) w'):wpList prog ops Q (o :: z) a w:=by
 obtain ⟨i0,hi,h7,h8,h9⟩:=info_parts aNV;refine bV h6 s x 49 ho 0 48 i0 _ 3 24 Tryz.underlying49 hi h7 h8 h9 rfl (by decide) v l.length _ hs h0 ⟨bk,0,none⟩ 1 1 (enC y) hx (by simp [enC])
  (fun j u hu=>?_) (fun u hu=>?_) (by simp only [maxLen];omega) (by omega) (Nat.zero_le _) (fun e w' h1 h2 h3 h5=>h e w' ?_ ?_ h5)
 ·rw [dN];exact d.cell _ (by rw [Nat.zero_add];exact hu)
 ·simp only [enC,List.mem_cons,List.not_mem_nil,or_false] at hu;rcases hu with rfl|rfl|rfl<;>rfl
 ·unfold iP;rw [List.length_append,aAc];have:dL [y]=enC y:=by simp [dL]
  rw [this];exact h1
 exact (Only.refl _ _).grown h2 (fun k hk=>.inl (by rw [hk];simp))
section
variable {l:List Asn} {i j k q r b:Nat} {m:Mk} {t:Tb} {w0 w w':World} {ev qv wv:Value} {nx:Nat} {wl:List Bool}
theorem QL.aNM (h:Three l i j k) (hf:Fam w0 w (QL l i j k q r b m t)) (d:lC w b ev qv wv nx wl t) {w2:World} {v':Value} {q':List Int} (he:aN w2 w.heap.size v' q') (ho:Only [] w w2) :
  w2.cell? ⟨b,1,none⟩=some qv/\w2.frozen? ⟨b,1,none⟩=false/\lC (w2.setCell ⟨b,1,none⟩ v') b ev v' wv nx wl ⟨t.ents,q',t.ph,t.nx,t.fd⟩/\Fam w0 (w2.setCell ⟨b,1,none⟩ v') (QL l i j k q r b m ⟨t.ents,q',t.ph,t.nx,t.fd⟩):=by
 have h4:b<w.heap.size:=by obtain ⟨U,hr⟩:=d.row;exact hr.lt
 have h0:=d.aK ho;have hs:Only [b] w2 (w2.setCell ⟨b,1,none⟩ v'):=(Only.refl _ w2).set (.inl (by simp)) _;obtain ⟨h1,h2,h3⟩:=h0.rest hs;have y:∀ g,v'.ownBlock=some g->w.heap.size<=g:=fun g z=>(he.own g z).1;have hT:lC (w2.setCell ⟨b,1,none⟩ v') b ev v' wv nx wl ⟨t.ents,q',t.ph,t.nx,t.fd⟩:=
  ⟨h0.row.imp fun U x=>x.set 1 _,h1,(he.base (Nat.zero_le _)).only hs (fun g z=>by have:=y g z;simp;omega),h3,d.now,d.two,fun g z=>⟨(d.n1 g z).1,(d.n1 g z).2.1,fun e=>by have:=y g e;have:=(d.ents.own g z).2;omega⟩,fun g z=>⟨by have:=y g z;omega,fun e=>by have:=y g z;have:=(d.wh.own g e).2;omega⟩,d.n3⟩
 refine ⟨h0.cells.2.1,h0.cells.2.2.2.2.2 1,hT,QL.trT h hf d ev v' wv nx wl _ hT (fun x hx=>?_) ((ho.mono (G:=[b]) (by simp)).trans hs (by simp) |>.toP (fun x hx=>.inl (.inl (by simpa using hx))))⟩;rcases hx with hx|hx|hx|hx
 ·exact .inl (.inl hx)
 ·exact .inl (.inr (.inl hx))
 ·exact .inr (y x hx)
 exact .inl (.inr (.inr (.inr hx)))
theorem aPJ (w:World) (T3:Three l i j k) (hf:Fam w0 w (QL l i j k q r b m t)) (hl:t.q.length<=1000000):Calls prog 147 #[.pointer (some ⟨b,0,none⟩)] w (fun e w'=>e=.returned (.tuple #[.int .i64 t.take.1,.int .i64 t.take.2.1])/\Fam w0 w' (QL l i j k q r b m t.take.2.2)):=by
 refine aF fun R hR=>?_;obtain ⟨ev,qv,wv,nx,wl,ht⟩:=QL.tr T3 hf;have HT:=aA ht;have HF:=aA hf;unfold Tb.take at hR
 cases e:t.q with
 | nil=>
  obtain ⟨z0,z1,z2,z3,z4,zf⟩:=ht.cells;rw [e] at hR;have y:=ht.q;rw [e] at y;obtain ⟨a,c,rfl⟩:=y.len;clear ht y hf;replace z1:w.cell? ⟨b,1,none⟩=some (.slice a 0 c):=z1;go_in;go_wp2;exact hR.o _ _ ⟨rfl,HF.o⟩
 | cons x rs=>
  rw [e] at hR hl;have y:=ht.q;rw [e] at y;obtain ⟨z0,z1,z2,z3,z4,zf⟩:=ht.cells;rcases y.form with ⟨_,h0⟩|⟨g,cap,rfl,_,x5,h3,hc⟩
  ·cases h0
  have x3:w.cell? ⟨g,0,none⟩=some (.int .i64 x):=hc 0 (by simp);have h7:Hid (∀ k,k<rs.length->w.cell? ⟨g,1+k,none⟩=some (.int .i64 (gI rs k))):=fun k hk=>by
   have h4:=hc (k+1) (by simp;omega);rw [Nat.add_comm 1 k,h4];simp [gI]
  obtain ⟨n,hn⟩:∃ z,z=rs.length:=⟨_,rfl⟩;have HN:=aA hn;have h8:n<=1000000:=by rw [hn];simp at hl;omega
  replace h3:n+1<=cap:=by rw [hn];simpa using h3
  replace z1:w.cell? ⟨b,1,none⟩=some (.slice (some ⟨g,0,none⟩) (n+1) cap):=by rw [hn];exact z1
  have h5:(w.alloc (.cells #[] 3)).cell? ⟨b,1,none⟩=some (.slice (some ⟨g,0,none⟩) (n+1) cap):=by rw [World.cell?_alloc_past _ _ _ (World.block_lt_of_cell? w _ z1)];exact z1
  have h9:((n:Int)+1 == 0)=false:=by rw [beq_eq_false_iff_ne];omega
  have x1:(0:Int)<(n:Int)+1:=by omega
  clear ht y hf hn hl hc z0 z2 z3 z4 zf
  by_cases h2:cap=1
  ·subst h2;obtain rfl:n=0:=by omega
   have x2:rs=[]:=List.eq_nil_of_length_eq_zero HN.o.symm;subst x2;replace z1:w.cell? ⟨b,1,none⟩=some (.slice (some ⟨g,0,none⟩) 1 1):=z1;replace h5:(w.alloc (.cells #[] 3)).cell? ⟨b,1,none⟩=some (.slice (some ⟨g,0,none⟩) 1 1):=h5;clear h9 x1;go_in;go_wp2_with (at_builtin;refine gU rfl _ _ rfl w ((Only.refl _ _).alloc _) _ rfl (aN.made _) _ 0 _ [] rfl rfl (.inr ⟨_,_,rfl,rfl⟩) (by omega) ?c1)
   case c1=>
    intro g2 h6 w1 y ho;obtain ⟨y1,yf,_,d⟩:=QL.aNM T3 HF.o HT.o y.o ho.o;have h1:=aA d;clear y ho d;go_wp2;exact hR.o _ _ ⟨rfl,h1.o⟩
  have x4:(cap=1)=False:=eq_false h2;have x6:(1:Int)<=((n+1:Nat):Int):=by omega
  have x7:((n+1:Nat):Int)<=cap:=by omega
  go_in;go_wp2_with (at_builtin;refine gU rfl _ _ rfl w ((Only.refl _ _).alloc _) _ rfl (aN.made _) (some ⟨g,1,none⟩) n _ rs rfl HN.o.symm (.inl ⟨g,1,_,by rw [HN.o],h7.o⟩) h8 ?c1)
  case c1=>
   intro g2 h6 w1 y ho;obtain ⟨y1,yf,_,d⟩:=QL.aNM T3 HF.o HT.o y.o ho.o;have h1:=aA d;clear y ho d;go_wp2;exact hR.o _ _ ⟨rfl,h1.o⟩
theorem lG (w:World) (h:lC w b ev qv wv nx wl t) (h7:t.ents.length<=20) (kd n:Nat):Calls prog 152 #[.pointer (some ⟨b,0,none⟩),.int .i64 (kd:Int),.int .i64 (n:Int)] w (aO w (.tuple #[.int .i64 (if nxt t.ents kd n<t.ents.length then (nxt t.ents kd n:Int) else 0),.bool (decide (nxt t.ents kd n<t.ents.length))])):=by
 refine aF fun R hR=>?_;obtain ⟨z0,_⟩:=h.cells;have HE:=aA h.ents;obtain ⟨a,c,rfl⟩:=h.ents.len;clear h;go_in;go_wp2;go_loopw [8] (fun iv wr=>∃ x:Nat,n<=x/\iv=.int .i64 x/\nxt t.ents kd x=nxt t.ents kd n/\wr=w) (fun iv _=>t.ents.length - (intOf iv).toNat)
 case atStart=>exact ⟨n,Nat.le_refl _,rfl,rfl,rfl⟩
 case round=>
  obtain ⟨x,hx,rfl,h1,rfl⟩:=hrel;have d:=aA h1;clear h1
  by_cases y:x<t.ents.length
  ·obtain ⟨g,cap,hv,_,_,c0,_,_,_⟩:=HE.o.at y;simp only [Value.slice.injEq,true_and] at hv;obtain ⟨rfl,rfl⟩:=hv;have h3:(x:Int)<(t.ents.length:Int):=by omega
   have h8:(0:Int)<=x:=by omega
   by_cases z:(eAt t.ents x).kind=(kd:Int)
   ·have h0:((eAt t.ents x).kind == (kd:Int))=true:=by rw [z];simp
    have e:nxt t.ents kd n=x:=d.o.symm.trans (rQ y z);rw [e,if_pos y,decide_eq_true y] at hR;rw [z] at c0;clear z h0 e;generalize t.ents.length=h2 at*;go_wp2;exact hR.o _ _ ⟨rfl,rfl⟩
   have h0:((eAt t.ents x).kind == (kd:Int))=false:=by rw [beq_eq_false_iff_ne];exact z
   have h4:Hid (nxt t.ents kd (x+1)=nxt t.ents kd n):=(aMr z).symm.trans d.o;have h6:x<20:=by omega
   clear z;generalize (eAt t.ents x).kind=kx at*;generalize h5:t.ents.length=h2 at*;go_wp2;exact ⟨⟨x+1,by omega,by go_num,h4.o,by first|rfl|trivial⟩,by simp [intOf];omega⟩
  have h3:¬ (x:Int)<(t.ents.length:Int):=by omega
  have e:nxt t.ents kd n=t.ents.length:=d.o.symm.trans (aEG (by omega));rw [e,if_neg (Nat.lt_irrefl _),decide_eq_false (Nat.lt_irrefl _)] at hR;clear e;generalize t.ents.length=h2 at*;go_wp2;exact hR.o _ _ ⟨rfl,rfl⟩
theorem QL.aST (T3:Three l i j k) (hf:Fam w0 w (QL l i j k q r b m t)) (z:lC w b ev qv wv nx wl t) (hp:t.ph=0) {d:World} {v':Value} {y:En} (he:iP d 48 0 v' (t.ents ++ [y])) (ho:Only ev.ownBlock.toList w d) (h0:v'.ownBlock=ev.ownBlock\/∃ g,v'.ownBlock=some g/\w.heap.size<=g) :
  d.cell? ⟨b,0,none⟩=some ev/\d.frozen? ⟨b,0,none⟩=false/\Fam w0 (d.setCell ⟨b,0,none⟩ v') (QL l i j k q r b m ⟨t.ents ++ [y],t.q,t.ph,t.nx,t.fd⟩):=by
 have h4:b<w.heap.size:=by obtain ⟨U,hr⟩:=z.row;exact hr.lt
 have h3:∃ U,Row d b U [ev,qv,.int .i64 (t.ph:Int),.int .i64 (nx:Int),wv]:=z.row.imp fun U x=>ho.row x (fun hm=>(z.n1 b (jM hm)).1 rfl);have hP:aI (fun x=>x=b\/ev.ownBlock=some x) w (d.setCell ⟨b,0,none⟩ v'):=((ho.toP (S:=fun x=>x=b\/ev.ownBlock=some x) (fun x hx=>.inl (.inr (jM hx))))).set (.inl (.inl rfl)) _;have hs:Only [b] d (d.setCell ⟨b,0,none⟩ v'):=(Only.refl _ d).set (.inl (by simp)) _;have h1:∀ g,v'.ownBlock=some g->g≠b/\wv.ownBlock≠some g/\qv.ownBlock≠some g:=fun g hg=>by
  rcases h0 with h|⟨g2,h,h2⟩
  ·exact z.n1 g (by rw [<-h];exact hg)
  rw [h] at hg
  cases hg
  refine ⟨by omega,fun e=>?_,fun e=>?_⟩
  ·have:=(z.wh.own _ e).2;omega
  have:=(z.q.own _ e).2;omega
 obtain ⟨U,hr⟩:=h3;refine ⟨hr.cell 0 rfl,hr.free 0,QL.trT T3 hf z v' qv wv nx wl _ ⟨⟨U,hr.set 0 _⟩,he.only hs (fun x hx=>by have:=(h1 x hx).1;simpa using this),z.q.dB hP (fun x hx=>?_),z.wh.dB hP (fun x hx=>?_),⟨fun e=>absurd (show t.ph=1 from e) (by omega),fun e=>absurd (show t.ph=2 from e) (by omega),fun e=>absurd (show t.ph=4 from e) (by omega)⟩,⟨z.two.1,fun e=>absurd (show t.ph=2 from e) (by omega)⟩,h1,z.n2,z.n3⟩ (fun x hx=>?_) (hP.mono (fun x hx=>.inl ?_))⟩
 ·rintro (h|h)
  ·exact (z.n2 x hx).1 h
  exact (z.n1 x h).2.2 hx
 ·rintro (h|h)
  ·exact z.n3 (by rw [<-h];exact hx)
  exact (z.n1 x h).2.1 hx
 ·rcases hx with hx|hx|hx|hx
  ·exact .inl (.inl hx)
  ·rcases h0 with h|⟨g2,h,h2⟩
   ·exact .inl (.inr (.inl (by rw [<-h];exact hx)))
   rw [h] at hx;cases hx;exact .inr h2
  ·exact .inl (.inr (.inr (.inl hx)))
  exact .inl (.inr (.inr (.inr hx)))
 rcases hx with hx|hx
 ·exact .inl hx
 exact .inr (.inl hx)
theorem aJu (w:World) (T3:Three l i j k) (hf:Fam w0 w (QL l i j k q r b m t)) (kd x g:Int):Calls prog 146 #[.pointer (some ⟨b,0,none⟩),.pointer (some ⟨r,0,none⟩),.int .i64 kd,.int .i64 x,.int .i64 g] w (fun e w'=>e=.returned (.tuple #[.int .i64 (t.add m kd x g).1,.int .i64 (t.add m kd x g).2.1])/\Fam w0 w' (QL l i j k q r b m (t.add m kd x g).2.2)):=by
 refine aF fun R y=>?_;obtain ⟨ev,qv,wv,nx,wl,ht⟩:=QL.tr T3 hf;obtain ⟨z0,z1,z2,z3,z4,zf⟩:=ht.cells;have cc:=aBe w T3.t2 hf x;have HT:=aA ht;have HF:=aA hf;unfold Tb.add at y;clear z1 z3 z4 zf
 by_cases h1:kd<1\/3<kd
 ·rw [if_pos h1] at y;clear hf ht cc
  by_cases h2:kd<1
  ·clear h1;go_in;go_wp2;exact y.o _ _ ⟨rfl,HF.o⟩
  have h3:=h1.resolve_left h2;clear h1;go_in;go_wp2;exact y.o _ _ ⟨rfl,HF.o⟩
 rw [if_neg h1] at y;have h2:¬ kd<1:=fun h=>h1 (.inl h);have h3:¬ 3<kd:=fun h=>h1 (.inr h);clear h1;have h0:m.color x=if (m.M.ob x).isSome then (m.col x,0) else (0,3):=rfl
 by_cases hp:t.ph=0
 rotate_left
 ·rw [if_pos hp] at y;have y2:((t.ph:Int) != 0)=true:=by simp;omega
  clear hf ht h0 cc hp;generalize t.ph=ph at*;go_in;go_wp2;exact y.o _ _ ⟨rfl,HF.o⟩
 rw [if_neg (fun h=>h hp)] at y;have HP:=aA hp;rw [hp] at z2;replace z2:w.cell? ⟨b,2,none⟩=some (.int .i64 0):=z2
 cases hs:(m.M.ob x).isSome with
 | false=>
  rw [if_pos hs] at y;rw [h0,hs] at cc;clear hf ht h0 hp;go_in;go_wp2_with fail;go_fit cc;rintro e w1 ⟨rfl,z⟩;have h7:=aA (HF.o.aK z);clear cc z;go_wp2;exact y.o _ _ ⟨rfl,h7.o⟩
 | true=>
  rw [if_neg (by rw [hs];simp)] at y;rw [h0,hs] at cc;obtain ⟨a,c,x2⟩:=HT.o.ents.len;clear h0 hp hf ht
  by_cases h5:20<=t.ents.length
  ·rw [if_pos h5] at y;have x3:(20:Int)<=(t.ents.length:Int):=by omega
   subst x2;clear h5;generalize t.ents.length=h6 at*;go_in;go_wp2_with fail;go_fit cc;rintro e w1 ⟨rfl,z⟩;have h7:=aA (HF.o.aK z);have y0:=z.cell z0 (by simp);clear cc z;go_wp2;exact y.o _ _ ⟨rfl,h7.o⟩
  rw [if_neg h5] at y;have x3:¬ (20:Int)<=(t.ents.length:Int):=by omega
  have x8:Hid (t.ents.length<=1000000):=by show _<=_;omega
  subst x2;obtain ⟨h6,h4⟩:∃ n,n=t.ents.length:=⟨_,rfl⟩;rw [<-h4] at y x3 z0;have d:=aA h4;clear h4 h5;go_in;go_wp2_with fail;go_fit cc;rintro e w1 ⟨rfl,z⟩;have y0:=z.cell z0 (by simp);have x5:=aA (HF.o.aK z);have x9:=aA (HT.o.aK z);clear cc z;have HY:Hid (Row (w1.alloc (.cells #[.int .i64 kd,.int .i64 x,.int .i64 g] 48)) w1.heap.size 48 (enC ⟨kd,x,g⟩)):=Row.new w1 _ _;have x6:=aA (x5.o.alloc (.cells #[.int .i64 kd,.int .i64 x,.int .i64 g] 48));have h8:=aA (x9.o.aK ((Only.refl [] w1).alloc (.cells #[.int .i64 kd,.int .i64 x,.int .i64 g] 48)));go_wp2_with (at_builtin;refine aIt rfl _ _ rfl _ t.ents (by rw [<-d.o];rfl) h8.o.ents _ _ ⟨kd,x,g⟩ rfl HY.o (by have:=x8.o;have:=d.o;omega) ?_);intro v' w2 he z h9;have x1:v'.ownBlock=(Value.slice a t.ents.length c).ownBlock\/∃ g2,v'.ownBlock=some g2/\(w1.alloc (.cells #[.int .i64 kd,.int .i64 x,.int .i64 g] 48)).heap.size<=g2:=h9.imp id (fun h=>⟨_,h,by simp⟩);have hA:=QL.aST T3 x6.o h8.o HP.o he z x1;obtain ⟨q1,q2,q3⟩:=hA;rw [<-d.o] at q1;have HQ:=aA q3;have x7:Hid ((t.ents ++ [⟨kd,x,g⟩]:List En).length=h6+1):=by show _=_;rw [List.length_append,d.o];rfl
  obtain ⟨a2,c2,x4⟩:=he.len;rw [x7.o] at x4;subst x4;clear he z h9 x1 q3;have y1:(h6:Int)+1 - 1=h6:=by omega
  go_wp2;exact y.o _ _ ⟨rfl,HQ.o⟩
end
theorem Bls.setAt {w:World} {base g n cap:Nat} {l:List Bool} (h:Bls w base (.slice (some ⟨g,0,none⟩) n cap) l) (i:Nat) (y:Bool):Bls (w.setCell ⟨g,i,none⟩ (.bool y)) base (.slice (some ⟨g,0,none⟩) n cap) (l.set i y):=by
 rcases h.form with ⟨e,_⟩|⟨g2,z,e,_⟩
 ·cases e
 simp only [Value.slice.injEq,Option.some.injEq,Addr.mk.injEq] at e;obtain ⟨⟨rfl,_⟩,rfl,rfl⟩:=e;have d:=(World.ownsRow.stored h i (.bool y)).1;unfold Bls;rw [List.length_set,List.map_set];exact d
theorem Bls.ofRow {w:World} {base g:Nat} {l:List Bool} (hb:base<=g) (y:Row w g 4 (l.map Value.bool)) (z:l.length<=1000000):Bls w base (.slice (some ⟨g,0,none⟩) l.length l.length) l:=by
 refine ⟨by simp,.inr ⟨g,l.length,(l.map Value.bool).toArray,rfl,hb,y,Nat.le_refl _,by simp only [maxLen];omega,by simp,?_⟩⟩;rw [Nat.mul_one];exact List.take_of_length_le (by simp)
section
variable {l:List Asn} {i j k q r b:Nat} {m:Mk} {t u:Tb} {w0 w w':World} {ev qv wv:Value} {nx:Nat} {wl:List Bool}
theorem QL.aRp (z:Three l i j k) (d:Fam w0 w (QL l i j k q r b m t)) (n:Nat) (h1:t.ph=1->nxt t.ents 1 n=nxt t.ents 1 t.nx) (h2:t.ph=2->nxt t.ents 2 n=nxt t.ents 2 t.nx) (h4:t.ph=4->nxt t.ents 3 n=nxt t.ents 3 t.nx):Fam w0 w (QL l i j k q r b m (t.at t.ph n)):=by
 obtain ⟨ev,qv,wv,nx,wl,y⟩:=QL.tr z d;exact QL.trT z d y ev qv wv nx wl _ ⟨y.row,y.ents,y.q,y.wh,⟨fun e=>(y.now.1 e).trans (h1 e).symm,fun e=>(y.now.2.1 e).trans (h2 e).symm,fun e=>(y.now.2.2 e).trans (h4 e).symm⟩,y.two,y.n1,y.n2,y.n3⟩ (fun x hx=>.inl hx) (aI.refl _ _)
theorem QL.to4 (z:Three l i j k) (d:Fam w0 w (QL l i j k q r b m t)):Fam w0 ((w.setCell ⟨b,2,none⟩ (.int .i64 4)).setCell ⟨b,3,none⟩ (.int .i64 0)) (QL l i j k q r b m (t.aAr 0)):=by
 obtain ⟨ev,qv,wv,nx,wl,y⟩:=QL.tr z d;have ho:Only [b] w ((w.setCell ⟨b,2,none⟩ (.int .i64 4)).setCell ⟨b,3,none⟩ (.int .i64 0)):=((Only.refl _ w).set (.inl (by simp)) _).set (.inl (by simp)) _;obtain ⟨h1,h2,h3⟩:=y.rest ho;exact QL.trT z d y ev qv wv 0 wl _ ⟨y.row.imp fun U x=>(x.set 2 _).set 3 _,h1,h2,h3,⟨fun e=>by simp [Tb.aAr,Tb.at] at e,fun e=>by simp [Tb.aAr,Tb.at] at e,fun _=>yN.symm⟩,⟨y.two.1,fun e=>by simp [Tb.aAr,Tb.at] at e⟩,y.n1,y.n2,y.n3⟩ (fun x hx=>.inl hx) (ho.toP (fun x hx=>.inl (.inl (by simpa using hx))))
theorem QL.to3 (y:Three l i j k) (z:Fam w0 w (QL l i j k q r b m t)):Fam w0 (w.setCell ⟨b,2,none⟩ (.int .i64 3)) (QL l i j k q r b m (t.at 3 0)):=
 QL.aCI y z 3 (by omega) 0 (fun _ _ _ _ _ _=>⟨fun e=>by simp [Tb.at] at e,fun e=>by simp [Tb.at] at e,fun e=>by simp [Tb.at] at e⟩)
theorem QL.to2 (e:Three l i j k) (hf:Fam w0 w (QL l i j k q r b m t)) (y:lC w b ev qv wv nx wl t) (hl:wl.length=t.ents.length) (hw:∀ i,i<t.ents.length->gB wl i=m.isW (eAt t.ents i).tgt):Fam w0 ((w.setCell ⟨b,2,none⟩ (.int .i64 2)).setCell ⟨b,3,none⟩ (.int .i64 0)) (QL l i j k q r b m ((t.find m).at 2 0)):=by
 have d:Only [b] w ((w.setCell ⟨b,2,none⟩ (.int .i64 2)).setCell ⟨b,3,none⟩ (.int .i64 0)):=((Only.refl _ w).set (.inl (by simp)) _).set (.inl (by simp)) _;obtain ⟨h1,h2,h3⟩:=y.rest d;refine QL.trT e hf y ev qv wv 0 wl _ ⟨y.row.imp fun U x=>(x.set 2 _).set 3 _,h1,h2,h3,aAI.self _,⟨y.two.1,fun _=>⟨hl,fun i hi z=>?_⟩⟩,y.n1,y.n2,y.n3⟩ (fun x hx=>.inl hx) (d.toP (fun x hx=>.inl (.inl (by simpa using hx))));show gB wl i=(decide ((eAt t.ents i).kind=2) && m.isW (eAt t.ents i).tgt);replace z:(eAt t.ents i).kind=2:=z;rw [z,hw i hi];rfl
theorem QL.mkW (T3:Three l i j k) (hf:Fam w0 w (QL l i j k q r b m t)) (z:lC w b ev qv wv nx wl t) (hp:t.ph≠2) {C:Array Value} {n:Nat} (hn:n<=20) (hC:C.toList=(List.replicate n false).map Value.bool) :
  lC ((w.alloc (.cells C 4)).setCell ⟨b,4,none⟩ (.slice (some ⟨w.heap.size,0,none⟩) n n)) b ev qv (.slice (some ⟨w.heap.size,0,none⟩) n n) nx (List.replicate n false) t/\Fam w0 ((w.alloc (.cells C 4)).setCell ⟨b,4,none⟩ (.slice (some ⟨w.heap.size,0,none⟩) n n)) (QL l i j k q r b m t):=by
 have h5:b<w.heap.size:=by obtain ⟨U,hr⟩:=z.row;exact hr.lt
 have h0:Only [] w (w.alloc (.cells C 4)):=(Only.refl [] w).alloc _;have ho:Only [b] (w.alloc (.cells C 4)) ((w.alloc (.cells C 4)).setCell ⟨b,4,none⟩ (.slice (some ⟨w.heap.size,0,none⟩) n n)):=(Only.refl _ _).set (.inl (by simp)) _;have h4:=z.aK h0;obtain ⟨h1,h2,h3⟩:=h4.rest ho;have hr:Row (w.alloc (.cells C 4)) w.heap.size 4 ((List.replicate n false).map Value.bool):=by rw [<-hC];exact Row.new w 4 C.toList
 have hB:Bls (w.alloc (.cells C 4)) 0 (.slice (some ⟨w.heap.size,0,none⟩) n n) (List.replicate n false):=by
  have:=Bls.ofRow (Nat.zero_le _) hr (by simp;omega);rwa [List.length_replicate] at this
 have d:∀ g,(Value.slice (some ⟨w.heap.size,0,none⟩) n n).ownBlock=some g->g=w.heap.size:=fun g y=>by
  have:w.heap.size=g:=by simpa [Value.ownBlock] using y
  exact this.symm
 have hT:lC ((w.alloc (.cells C 4)).setCell ⟨b,4,none⟩ (.slice (some ⟨w.heap.size,0,none⟩) n n)) b ev qv (.slice (some ⟨w.heap.size,0,none⟩) n n) nx (List.replicate n false) t:=
  ⟨h4.row.imp fun U x=>x.set 4 _,h1,h2,hB.only ho (fun g y=>by have:=d g y;simp;omega),z.now,⟨by simp;omega,fun e=>absurd e hp⟩,fun g y=>⟨(z.n1 g y).1,fun e=>by have:=d g e;have:=(z.ents.own _ y).2;omega,(z.n1 g y).2.2⟩,fun g y=>⟨(z.n2 g y).1,fun e=>by have:=d g e;have:=(z.q.own _ y).2;omega⟩,fun e=>by have:=d b e;omega⟩
 refine ⟨hT,QL.trT T3 hf z ev qv _ nx _ _ hT (fun x hx=>?_) ((h0.mono (G:=[b]) (by simp)).trans ho (by simp) |>.toP (fun x hx=>.inl (.inl (by simpa using hx))))⟩;rcases hx with hx|hx|hx|hx
 ·exact .inl (.inl hx)
 ·exact .inl (.inr (.inl hx))
 ·exact .inl (.inr (.inr (.inl hx)))
 cases hx;exact .inr (Nat.le_refl _)
theorem QL.aUf (T3:Three l i j k) (hf:Fam w0 w (QL l i j k q r b m t)) {wg n c:Nat} (d:lC w b ev qv (.slice (some ⟨wg,0,none⟩) n c) nx wl t) (hp:t.ph≠2) (x:Nat) (y:Bool) :
  lC (w.setCell ⟨wg,x,none⟩ (.bool y)) b ev qv (.slice (some ⟨wg,0,none⟩) n c) nx (wl.set x y) t/\Fam w0 (w.setCell ⟨wg,x,none⟩ (.bool y)) (QL l i j k q r b m t):=by
 have ho:Only [wg] w (w.setCell ⟨wg,x,none⟩ (.bool y)):=(Only.refl _ w).set (.inl (by simp)) _;have hT:lC (w.setCell ⟨wg,x,none⟩ (.bool y)) b ev qv (.slice (some ⟨wg,0,none⟩) n c) nx (wl.set x y) t:=
  ⟨d.row.imp fun U z=>ho.row z (fun e=>d.n3 (by simp at e;rw [e];rfl)),d.ents.only ho (fun g hg e=>(d.n1 g hg).2.1 (by simp at e;rw [e];rfl)),d.q.only ho (fun g hg e=>(d.n2 g hg).2 (by simp at e;rw [e];rfl)),d.wh.setAt x y,d.now,⟨by rw [List.length_set];exact d.two.1,fun e=>absurd e hp⟩,d.n1,d.n2,d.n3⟩
 exact ⟨hT,QL.trT T3 hf d ev qv _ nx _ _ hT (fun x hx=>.inl hx) (ho.toP (fun x hx=>.inl (.inr (.inr (.inr (by simp at hx;rw [hx];rfl))))))⟩
theorem aGK (w:World) (T3:Three l i j k) (d:Fam w0 w (QL l i j k q r b m t)) (hg:t.Good m) (y:t.ph=4):Calls prog 76 #[.pointer (some ⟨b,0,none⟩),.pointer (some ⟨r,0,none⟩)] w (fun e w'=>e=.returned (.tuple #[])/\Fam w0 w' (QL l i j k q r b m (t.settle m))):=by
 refine aF fun R z=>?_;obtain ⟨ev,qv,wv,nx,wl,ht⟩:=QL.tr T3 d;obtain ⟨_,_,x2,_,_,_⟩:=ht.cells;replace x2:w.cell? ⟨b,2,none⟩=some (.int .i64 4):=by rw [x2,y];rfl
 have iG:Hid (Fam w0 w (QL l i j k q r b m (t.settle m))):=by
  show Fam _ _ _;have e:t.settle m=t.at t.ph (nxt t.ents 3 t.nx):=by unfold Tb.settle;rw [if_neg (by omega),if_neg (by omega),if_neg (by omega),if_pos y];unfold Tb.aAr;rw [y]
  rw [e];exact QL.aRp T3 d _ (fun e=>absurd e (by omega)) (fun e=>absurd e (by omega)) (fun e=>yN)
 clear d hg ht y;go_in;go_wp2_with fail
 first
 | (refine bodyPost_ret (results_none rfl _ _ _) rfl ?_;exact z.o _ _ ⟨rfl,iG.o⟩)
 | exact z.o _ _ ⟨rfl,iG.o⟩
 | (go_end0;exact z.o _ _ ⟨rfl,iG.o⟩)
theorem aGL (w:World) (T3:Three l i j k) (hf:Fam w0 w (QL l i j k q r b m t)) (hg:t.Good m) (hp:t.ph=3):Calls prog 76 #[.pointer (some ⟨b,0,none⟩),.pointer (some ⟨r,0,none⟩)] w (fun e w'=>e=.returned (.tuple #[])/\Fam w0 w' (QL l i j k q r b m (t.settle m))):=by
 refine aF fun R hR=>?_;have y:=aA hf;have h2:=aA hp;have hz:=hg.z3 hp;have h3:Hid (Fam w0 w (QL l i j k q r b m (t.at 3 0))):=by
  show Fam _ _ _;have e:t.at 3 0=t:=by unfold Tb.at;rw [<-hp,<-hz]
  rw [e];exact hf
 have h0:Hid (t.qV m=t.settle m):=by show _=_;unfold Tb.settle;rw [if_neg (by omega),if_neg (by omega),if_pos hp]
 clear hf hg hp hz;go_in;obtain ⟨h4,h6,h8,h5,h7,h1⟩:=QL.tr T3 y.o;obtain ⟨_,_,x2,x3,_,xf⟩:=h1.cells;replace x2:(w).cell? ⟨b,2,none⟩=some (.int .i64 3):=by rw [x2,h2.o];rfl
 have h9:=xf 2;have x1:=xf 3;have cd:=kF (w) T3.t2 y.o;have d:=aA (QL.to4 T3 y.o);clear h1 xf
 by_cases hl:m.list=[]
 ·have z:Hid (Fam w0 (((w).setCell ⟨b,2,none⟩ (.int .i64 4)).setCell ⟨b,3,none⟩ (.int .i64 0)) (QL l i j k q r b m (t.settle m))):=by
   show Fam _ _ _;rw [<-h0.o];unfold Tb.qV;rw [if_pos hl];exact d.o
  rw [decide_eq_true hl] at cd;clear hl y d;go_wp2_with fail;go_fit cd;rintro e _ ⟨rfl,rfl⟩;clear cd;go_wp2_with fail
  first
  | (refine bodyPost_ret (results_none rfl _ _ _) rfl ?_;exact hR.o _ _ ⟨rfl,z.o⟩)
  | exact hR.o _ _ ⟨rfl,z.o⟩
  | (go_end0;exact hR.o _ _ ⟨rfl,z.o⟩)
 have z:Hid (Fam w0 (w) (QL l i j k q r b m (t.settle m))):=by
  show Fam _ _ _;rw [<-h0.o];unfold Tb.qV;rw [if_neg hl];exact h3.o
 rw [decide_eq_false hl] at cd;clear hl y d;go_wp2_with fail;go_fit cd;rintro e _ ⟨rfl,rfl⟩;clear cd;go_wp2_with fail
 first
 | (refine bodyPost_ret (results_none rfl _ _ _) rfl ?_;exact hR.o _ _ ⟨rfl,z.o⟩)
 | exact hR.o _ _ ⟨rfl,z.o⟩
 | (go_end0;exact hR.o _ _ ⟨rfl,z.o⟩)
theorem aGM (w:World) (T3:Three l i j k) (hf:Fam w0 w (QL l i j k q r b m t)) (hg:t.Good m) (hp:t.ph=2):Calls prog 76 #[.pointer (some ⟨b,0,none⟩),.pointer (some ⟨r,0,none⟩)] w (fun e w'=>e=.returned (.tuple #[])/\Fam w0 w' (QL l i j k q r b m (t.settle m))):=by
 refine aF fun R hR=>?_;have z:=aA hf;have h1:=aA hp;have x1:=aA hg.b.le;have h4:Hid (t.set2 m t.nx=t.settle m):=by show _=_;unfold Tb.settle;rw [if_neg (by omega),if_pos hp]
 clear hf hg hp;go_in;obtain ⟨x7,y0,y4,h5,y2,h2⟩:=QL.tr T3 z.o;obtain ⟨_,_,x2,x3,_,xf⟩:=h2.cells;replace x2:(w).cell? ⟨b,2,none⟩=some (.int .i64 2):=by rw [x2,h1.o];rfl
 have cl:Calls prog 152 #[.pointer (some ⟨b,0,none⟩),.int .i64 2,.int .i64 (h5:Int)] (w) _:=lG (w) h2 x1.o 2 h5;have h8:=h2.now.2.1 h1.o;have h7:nxt (t).ents ((2:Nat):Int) h5=nxt (t).ents 2 (t).nx:=h8;rw [h7] at cl;have x6:=xf 2;clear h2 xf h8 h7
 by_cases y:nxt (t).ents 2 (t).nx<(t).ents.length
 ·as_aux_lemma=>
  have d:Hid (Fam w0 (w) (QL l i j k q r b m (t.settle m))):=by
   show Fam _ _ _;rw [<-h4.o];unfold Tb.set2;rw [if_pos y,<-h1.o];exact QL.aRp T3 z.o _ (fun e=>absurd e (by rw [h1.o];decide)) (fun e=>yN) (fun e=>absurd e (by rw [h1.o];decide))
  rw [if_pos y,decide_eq_true y] at cl;clear y z;go_wp2_with fail;go_fit cl;rintro e _ ⟨rfl,rfl⟩;clear cl;go_wp2_with fail
  first
  | (refine bodyPost_ret (results_none rfl _ _ _) rfl ?_;exact hR.o _ _ ⟨rfl,d.o⟩)
  | exact hR.o _ _ ⟨rfl,d.o⟩
  | (go_end0;exact hR.o _ _ ⟨rfl,d.o⟩)
 ·as_aux_lemma=>
  have h0:=aA (QL.to3 T3 z.o);have x5:=aA (QL.to3 T3 z.o);have x4:Hid (((t).at 3 0).ph=3):=rfl;have h6:Hid ((t).qV m=t.settle m):=by
   show _=_;rw [<-h4.o];unfold Tb.set2;rw [if_neg y]
  rw [if_neg y,decide_eq_false y] at cl;clear y z h4;go_wp2_with fail;go_fit cl;rintro e _ ⟨rfl,rfl⟩;clear cl x3;obtain ⟨x8,y1,y5,x9,y3,h9⟩:=QL.tr T3 h0.o;obtain ⟨_,_,x2,x3,_,xf⟩:=h9.cells;replace x2:((w).setCell ⟨b,2,none⟩ (.int .i64 3)).cell? ⟨b,2,none⟩=some (.int .i64 3):=by rw [x2,x4.o];rfl
  have x6:=xf 2;have y6:=xf 3;have cd:=kF ((w).setCell ⟨b,2,none⟩ (.int .i64 3)) T3.t2 h0.o;have h3:=aA (QL.to4 T3 h0.o);clear h9 xf
  by_cases hl:m.list=[]
  ·have d:Hid (Fam w0 ((((w).setCell ⟨b,2,none⟩ (.int .i64 3)).setCell ⟨b,2,none⟩ (.int .i64 4)).setCell ⟨b,3,none⟩ (.int .i64 0)) (QL l i j k q r b m (t.settle m))):=by
    show Fam _ _ _;rw [<-h6.o];unfold Tb.qV;rw [if_pos hl];exact h3.o
   rw [decide_eq_true hl] at cd;clear hl h0 h3;go_wp2_with fail;go_fit cd;rintro e _ ⟨rfl,rfl⟩;clear cd;go_wp2_with fail
   first
   | (refine bodyPost_ret (results_none rfl _ _ _) rfl ?_;exact hR.o _ _ ⟨rfl,d.o⟩)
   | exact hR.o _ _ ⟨rfl,d.o⟩
   | (go_end0;exact hR.o _ _ ⟨rfl,d.o⟩)
  have d:Hid (Fam w0 ((w).setCell ⟨b,2,none⟩ (.int .i64 3)) (QL l i j k q r b m (t.settle m))):=by
   show Fam _ _ _;rw [<-h6.o];unfold Tb.qV;rw [if_neg hl];exact x5.o
  rw [decide_eq_false hl] at cd;clear hl h0 h3;go_wp2_with fail;go_fit cd;rintro e _ ⟨rfl,rfl⟩;clear cd;go_wp2_with fail
  first
  | (refine bodyPost_ret (results_none rfl _ _ _) rfl ?_;exact hR.o _ _ ⟨rfl,d.o⟩)
  | exact hR.o _ _ ⟨rfl,d.o⟩
  | (go_end0;exact hR.o _ _ ⟨rfl,d.o⟩)
theorem aGN (w:World) (T3:Three l i j k) (hf:Fam w0 w (QL l i j k q r b m t)) (hg:t.Good m) (hp:t.ph=1):Calls prog 76 #[.pointer (some ⟨b,0,none⟩),.pointer (some ⟨r,0,none⟩)] w (fun e w'=>e=.returned (.tuple #[])/\Fam w0 w' (QL l i j k q r b m (t.settle m))):=by
 refine aF fun R hR=>?_;obtain ⟨ev,qv,wv,nx,wl,ht⟩:=QL.tr T3 hf;obtain ⟨x0,_,x2,x3,x4,xf⟩:=ht.cells;replace x2:w.cell? ⟨b,2,none⟩=some (.int .i64 1):=by rw [x2,hp];rfl
 have cl:Calls prog 152 #[.pointer (some ⟨b,0,none⟩),.int .i64 1,.int .i64 (nx:Int)] w _:=lG w ht hg.b.le 1 nx;have x5:nxt t.ents ((1:Nat):Int) nx=nxt t.ents 1 t.nx:=ht.now.1 hp;rw [x5] at cl;have x7:=aA hf;have h7:=aA ht;have h1:=aA hp;have x8:=aA hg.b.le;have b0:=xf 4;clear hf ht hg x5 hp xf
 by_cases d:nxt t.ents 1 t.nx<t.ents.length
 ·as_aux_lemma=>
  have iG:Hid (Fam w0 w (QL l i j k q r b m (t.settle m))):=by
   show Fam _ _ _;unfold Tb.settle;rw [if_pos h1.o];unfold Tb.set1;rw [if_pos d,<-h1.o];exact QL.aRp T3 x7.o _ (fun e=>yN) (fun e=>absurd e (by rw [h1.o];decide)) (fun e=>absurd e (by rw [h1.o];decide))
  rw [if_pos d,decide_eq_true d] at cl;clear d x7 h7;go_in;go_wp2_with fail;go_fit cl;rintro e _ ⟨rfl,rfl⟩;clear cl;go_wp2_with fail
  first
  | (refine bodyPost_ret (results_none rfl _ _ _) rfl ?_;exact hR.o _ _ ⟨rfl,iG.o⟩)
  | exact hR.o _ _ ⟨rfl,iG.o⟩
  | (go_end0;exact hR.o _ _ ⟨rfl,iG.o⟩)
 have y9:Hid (((t.find m).at 2 0).set2 m ((t.find m).at 2 0).nx=t.settle m):=by
  show _=_;unfold Tb.settle;rw [if_pos h1.o];unfold Tb.set1;rw [if_neg d];rfl
 rw [if_neg d,decide_eq_false d] at cl;obtain ⟨a,c,z2⟩:=h7.o.ents.len;obtain ⟨n,hn⟩:∃ z,z=t.ents.length:=⟨_,rfl⟩;have HN:=aA hn;rw [<-hn] at z2;subst z2;have a4:n<=20:=by rw [hn];exact x8.o
 obtain ⟨C,hC,a6⟩:=aMx n (by omega);have hW:=QL.mkW T3 x7.o h7.o (by rw [h1.o];decide) a4 hC;have z1:=aA hW.1;have y7:=aA hW.2;have a9:(w.alloc (.cells C 4)).cell? ⟨b,4,none⟩=some wv:=by rw [World.cell?_alloc_past _ _ _ (World.block_lt_of_cell? w _ x4)];exact x4
 have a3:(w.alloc (.cells C 4)).frozen? ⟨b,4,none⟩=false:=(h7.o.aK ((Only.refl [] w).alloc _)).cells.2.2.2.2.2 4;clear d x7 h7 hn hC hW x4 b0;go_in;go_wp2_with fail;go_fit cl;rintro e _ ⟨rfl,rfl⟩;clear cl;go_wp2_with fail;generalize ((w.alloc (.cells C 4)).setCell ⟨b,4,none⟩ (.slice (some ⟨w.heap.size,0,none⟩) n n))=w1 at*;generalize w.heap.size=wg at*;clear a6 a9 a3 x0 x2 x3;go_loopw [6] (fun iv wr=>∃ (x:Nat) (wl:List Bool),x<=n/\iv=.int .i64 x/\Fam w0 wr (QL l i j k q r b m t)/\lC wr b (.slice a n c) qv (.slice (some ⟨wg,0,none⟩) n n) nx wl t/\Hid (wl.length=n/\∀ y,y<x->gB wl y=m.isW (eAt t.ents y).tgt)) (fun iv _=>n - (intOf iv).toNat)
 case atStart=>exact ⟨0,_,by omega,rfl,y7.o,z1.o,⟨List.length_replicate,fun y hy=>by omega⟩⟩
 case round=>as_aux_lemma=>
  clear y7 z1;obtain ⟨x,wl,hx,rfl,hf,ht,h8⟩:=hrel;obtain ⟨x0,_,_,_,x4,_⟩:=ht.cells;have HF:=aA hf;have HT:=aA ht;clear hf
  by_cases x1:x<n
  ·as_aux_lemma=>
   have z6:(x:Int)<(n:Int):=by omega
   have b5:(0:Int)<=x:=by omega
   obtain ⟨g,cap,hv,_,_,_,c1,_,_⟩:=ht.ents.at (i:=x) (by rw [<-HN.o];exact x1);rw [<-HN.o] at hv;simp only [Value.slice.injEq,true_and] at hv;obtain ⟨rfl,rfl⟩:=hv;have HP:Hid (∀ w8,Only [] wr.drew w8->w8.cell? ⟨b,4,none⟩=some (.slice (some ⟨wg,0,none⟩) n n)/\w8.cell? ⟨b,0,none⟩=some (.slice (some ⟨g,0,none⟩) n c)/\w8.cell? ⟨g,x*3+1,none⟩=some (.int .i64 (eAt t.ents x).tgt)/\w8.frozen? ⟨wg,x,none⟩=false/\(∃ u,w8.cell? ⟨wg,x,none⟩=some u)/\∃ h2,lC (w8.setCell ⟨wg,x,none⟩ (.bool (m.isW (eAt t.ents x).tgt))) b (.slice (some ⟨g,0,none⟩) n c) qv (.slice (some ⟨wg,0,none⟩) n n) nx h2 t/\Fam w0 (w8.setCell ⟨wg,x,none⟩ (.bool (m.isW (eAt t.ents x).tgt))) (QL l i j k q r b m t)/\(h2.length=n/\∀ y,y<x+1->gB h2 y=m.isW (eAt t.ents y).tgt)/\(w8.setCell ⟨wg,x,none⟩ (.bool (m.isW (eAt t.ents x).tgt))).cell? ⟨g,x*3+1,none⟩=some (.int .i64 (eAt t.ents x).tgt)):=fun w8 ho=>by
    have h5:Only [] wr w8:=((Only.refl [] wr).drew).trans ho (by simp);have x6:=HT.o.aK h5;have a5:=HF.o.aK h5;obtain ⟨hT,hF⟩:=QL.aUf T3 a5 x6 (by rw [h1.o];decide) x (m.isW (eAt t.ents x).tgt);obtain ⟨y0,a7⟩:=h8.o;have a8:w8.ownsRow 0 4 1 (.slice (some ⟨wg,0,none⟩) n n) n (wl.map Value.bool):=by have:=x6.wh;unfold Bls at this;rw [y0] at this;exact this
    rcases x6.wh.form with ⟨e,_⟩|⟨g2,b1,e,_,_,_,hc⟩
    ·cases e
    simp only [Value.slice.injEq,Option.some.injEq,Addr.mk.injEq] at e;obtain ⟨⟨rfl,_⟩,_,_⟩:=e;obtain ⟨g3,b2,e3,_,_,_,d1,_,_⟩:=hT.ents.at (i:=x) (by rw [<-HN.o];exact x1);simp only [Value.slice.injEq,Option.some.injEq,Addr.mk.injEq] at e3;obtain ⟨⟨rfl,_⟩,_,_⟩:=e3;refine ⟨x6.cells.2.2.2.2.1,x6.cells.1,h5.cell c1 (by simp),World.ownsRow.frozenAt a8 x,⟨_,hc x (by rw [y0];exact x1)⟩,_,hT,hF,⟨by rw [List.length_set];exact y0,fun y hy=>?_⟩,d1⟩;rw [aQP (by rw [y0];exact x1)]
    by_cases e:y=x
    ·rw [if_pos e,e]
    rw [if_neg e];exact a7 y (by omega)
   have z7:Hid (Calls prog 161 #[.pointer (some ⟨r,0,none⟩),.int .i64 (eAt t.ents x).tgt] wr.drew (fun e w'=>e=.returned (.bool (m.isW (eAt t.ents x).tgt))/\Only [] wr.drew w')):=xZ wr.drew T3.t2 HF.o.drew _;clear ht HF HT h8;generalize m.isW (eAt t.ents x).tgt=wt at*;generalize (eAt t.ents x).tgt=tg at*;go_wp2;go_region_held3 (fun w'=>w'.cell? ⟨b,4,none⟩=some (.slice (some ⟨wg,0,none⟩) n n)/\w'.cell? ⟨b,0,none⟩=some (.slice (some ⟨g,0,none⟩) n c)/\w'.cell? ⟨g,x*3+1,none⟩=some (.int .i64 tg))
    (first|(exact ⟨x4,x0,c1⟩)|(exact ⟨k4,k0,k1⟩)|(exact ⟨q4,q0,q1⟩))
    (first|(go_at_call 161;go_fit z7.o;rintro e w8 ⟨rfl,h5⟩;obtain ⟨k4,k0,k1,kf,⟨ku,kc⟩,h2,y3,h3⟩:=HP.o w8 h5;obtain ⟨q0,_,_,_,q4,_⟩:=y3.cells;have q1:=h3.2.2;have z9:=aA y3;have y8:=aA h3;clear y3 h3 h5))
   have y4:=y8.o;have z8:=aA y4.1;have a0:Hid (h2.length=n/\∀ y,y<x+1->gB h2 y=m.isW (eAt t.ents y).tgt):=y4.2.1;clear y4 y8 q1 q0 q4 k4 k0 k1 kf kc;go_wp2;exact ⟨⟨x+1,h2,by omega,by go_num,z8.o,z9.o,a0.o⟩,by simp [intOf];omega⟩
  obtain rfl:x=n:=by omega
  have z6:¬ (x:Int)<(x:Int):=by omega
  have h4:Hid (Fam w0 ((wr.setCell ⟨b,2,none⟩ (.int .i64 2)).setCell ⟨b,3,none⟩ (.int .i64 0)) (QL l i j k q r b m ((t.find m).at 2 0))):=
   QL.to2 T3 HF.o HT.o (by rw [h8.o.1];exact HN.o) (fun y hy=>h8.o.2 y (by rw [HN.o];exact hy))
  have h9:Hid (((t.find m).at 2 0).ph=2):=rfl;have y2:=y9;replace x8:Hid (((t.find m).at 2 0).ents.length<=20):=x8.o;have y6:=ht.cells.2.2.2.2.2 2;have z5:=ht.cells.2.2.2.2.2 3;have x2:=ht.cells.2.2.1;have x3:=ht.cells.2.2.2.1;clear ht HF HT h8 y9 x1;go_upto_region 10 with fail;clear x0 x4 x2 x3 y6 z5;generalize (wr.setCell ⟨b,2,none⟩ (.int .i64 2)).setCell ⟨b,3,none⟩ (.int .i64 0)=w2 at*;obtain ⟨b3,b7,c2,y5,b9,x9⟩:=QL.tr T3 h4.o;obtain ⟨_,_,x2,x3,_,xf⟩:=x9.cells;replace x2:(w2).cell? ⟨b,2,none⟩=some (.int .i64 2):=by rw [x2,h9.o];rfl
  have cl:Calls prog 152 #[.pointer (some ⟨b,0,none⟩),.int .i64 2,.int .i64 (y5:Int)] (w2) _:=lG (w2) x9 x8.o 2 y5;have z3:=x9.now.2.1 h9.o;have x5:nxt ((t.find m).at 2 0).ents ((2:Nat):Int) y5=nxt ((t.find m).at 2 0).ents 2 ((t.find m).at 2 0).nx:=z3;rw [x5] at cl;have y6:=xf 2;clear x9 xf z3 x5
  by_cases h0:nxt ((t.find m).at 2 0).ents 2 ((t.find m).at 2 0).nx<((t.find m).at 2 0).ents.length
  ·as_aux_lemma=>
   have iG:Hid (Fam w0 (w2) (QL l i j k q r b m (t.settle m))):=by
    show Fam _ _ _;rw [<-y2.o];unfold Tb.set2;rw [if_pos h0,<-h9.o];exact QL.aRp T3 h4.o _ (fun e=>absurd e (by rw [h9.o];decide)) (fun e=>yN) (fun e=>absurd e (by rw [h9.o];decide))
   rw [if_pos h0,decide_eq_true h0] at cl;clear h0 h4;go_wp2_with fail;go_fit cl;rintro e _ ⟨rfl,rfl⟩;clear cl;go_wp2_with fail
   first
   | (refine bodyPost_ret (results_none rfl _ _ _) rfl ?_;exact hR.o _ _ ⟨rfl,iG.o⟩)
   | exact hR.o _ _ ⟨rfl,iG.o⟩
   | (go_end0;exact hR.o _ _ ⟨rfl,iG.o⟩)
  ·as_aux_lemma=>
   have h6:=aA (QL.to3 T3 h4.o);have a2:=aA (QL.to3 T3 h4.o);have a1:Hid ((((t.find m).at 2 0).at 3 0).ph=3):=rfl;have z0:Hid (((t.find m).at 2 0).qV m=t.settle m):=by
    show _=_;rw [<-y2.o];unfold Tb.set2;rw [if_neg h0]
   rw [if_neg h0,decide_eq_false h0] at cl;clear h0 h4 y2;go_wp2_with fail;go_fit cl;rintro e _ ⟨rfl,rfl⟩;clear cl x3;obtain ⟨b4,b8,c3,b6,c0,z4⟩:=QL.tr T3 h6.o;obtain ⟨_,_,x2,x3,_,xf⟩:=z4.cells;replace x2:((w2).setCell ⟨b,2,none⟩ (.int .i64 3)).cell? ⟨b,2,none⟩=some (.int .i64 3):=by rw [x2,a1.o];rfl
   have y6:=xf 2;have z5:=xf 3;have cd:=kF ((w2).setCell ⟨b,2,none⟩ (.int .i64 3)) T3.t2 h6.o;have y1:=aA (QL.to4 T3 h6.o);clear z4 xf
   by_cases hl:m.list=[]
   ·have iG:Hid (Fam w0 ((((w2).setCell ⟨b,2,none⟩ (.int .i64 3)).setCell ⟨b,2,none⟩ (.int .i64 4)).setCell ⟨b,3,none⟩ (.int .i64 0)) (QL l i j k q r b m (t.settle m))):=by
     show Fam _ _ _;rw [<-z0.o];unfold Tb.qV;rw [if_pos hl];exact y1.o
    rw [decide_eq_true hl] at cd;clear hl h6 y1;go_wp2_with fail;go_fit cd;rintro e _ ⟨rfl,rfl⟩;clear cd;go_wp2_with fail
    first
    | (refine bodyPost_ret (results_none rfl _ _ _) rfl ?_;exact hR.o _ _ ⟨rfl,iG.o⟩)
    | exact hR.o _ _ ⟨rfl,iG.o⟩
    | (go_end0;exact hR.o _ _ ⟨rfl,iG.o⟩)
   have iG:Hid (Fam w0 ((w2).setCell ⟨b,2,none⟩ (.int .i64 3)) (QL l i j k q r b m (t.settle m))):=by
    show Fam _ _ _;rw [<-z0.o];unfold Tb.qV;rw [if_neg hl];exact a2.o
   rw [decide_eq_false hl] at cd;clear hl h6 y1;go_wp2_with fail;go_fit cd;rintro e _ ⟨rfl,rfl⟩;clear cd;go_wp2_with fail
   first
   | (refine bodyPost_ret (results_none rfl _ _ _) rfl ?_;exact hR.o _ _ ⟨rfl,iG.o⟩)
   | exact hR.o _ _ ⟨rfl,iG.o⟩
   | (go_end0;exact hR.o _ _ ⟨rfl,iG.o⟩)
theorem iD (w:World) (z:Three l i j k) (d:Fam w0 w (QL l i j k q r b m t)) (y:t.Good m) (hp:1<=t.ph):Calls prog 76 #[.pointer (some ⟨b,0,none⟩),.pointer (some ⟨r,0,none⟩)] w (fun e w'=>e=.returned (.tuple #[])/\Fam w0 w' (QL l i j k q r b m (t.settle m))):=by
 have h4:=y.p4;have:t.ph=1\/t.ph=2\/t.ph=3\/t.ph=4:=by omega
 rcases this with e|e|e|e
 ·exact aGN w z d y e
 ·exact aGM w z d y e
 ·exact aGL w z d y e
 exact aGK w z d y e
end
