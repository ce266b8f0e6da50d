/- Lemmas of this claim. -/
import Derived.Test.YthflghdaejbdkaaGreatXcTbPD
import Derived.Test.YthflghdaejbdkaaGreatXcTbGood
import Derived.Deep.RegionLaw
import Derived.Deep.AppendLies
namespace Go.Proofs.YthflghdaejbdkaaGreat
open _root_.Go.Proofs.Tryz (prog)
open Go.RowKit Go.Maps
set_option maxHeartbeats 6400000
set_option maxRecDepth 100000
set_option linter.unusedVariables false
def TbF (b:Nat) (ev qv:Value) (mo:Option Nat) (t:Tb) (kk:Nat):Asn:=
 ⟨fun w S=>mG w b ev qv mo t kk/\∀ k,S k↔(k=b\/ev.ownBlock=some k\/qv.ownBlock=some k\/mo=some k),
  fun {w w' S T} h d hd=>by
   obtain ⟨h,y⟩:=h;exact ⟨⟨h.row.imp fun U x=>d.row x (fun x=>hd b x ((y b).2 (.inl rfl))),h.ents.dA d (fun k z x=>hd k x ((y k).2 (.inr (.inl z)))),h.q.dA d (fun k z x=>hd k x ((y k).2 (.inr (.inr (.inl z))))),
   fun mb e=>by
    obtain ⟨n,f,h1,h2⟩:=h.fnd mb e;exact ⟨n,f,h1.only d (fun x=>hd mb x ((y mb).2 (.inr (.inr (.inr e))))),h2⟩,h.two,h.n1,h.n2,h.n3⟩,y⟩,
  fun {w S k} h z=>(TbA b t kk).lt (S:=S) ⟨ev,qv,mo,h.1,h.2⟩ z⟩
abbrev PT (l:List Asn) (i j k hb p b:Nat) (m:Mk) (t:Tb):List Asn:=PL l i j k hb p b m t t.ents.length
section
variable {l:List Asn} {i j k hb p b:Nat} {m:Mk} {t:Tb} {kk:Nat} {w0 w w':World}
theorem PL.fixed (h:Three l i j k) (hf:Fam w0 w (PL l i j k hb p b m t kk)) {y d:Value} {z:Option Nat} (ht:mG w b y d z t kk):Fam w0 w (ML (l.set k (TbF b y d z t kk)) i j hb p m):=by
 have e:ML (l.set k (TbF b y d z t kk)) i j hb p m=(PL l i j k hb p b m t kk).set k (TbF b y d z t kk):=by
  unfold PL ML;rw [List.set_comm _ _ (Ne.symm h.kj),List.set_comm _ _ (Ne.symm h.ki),List.set_set]
 rw [e];refine hf.turn k (PL.self h) fun S hS=>?_;obtain ⟨h1,h3,h2,h0,hS⟩:=hS;obtain ⟨rfl,rfl,rfl⟩:=ht.same h0;exact ⟨S,⟨ht,hS⟩,fun k hk=>.inl hk,aI.refl _ _⟩
theorem PL.aRw (h:Three l i j k) {y d:Value} {z:Option Nat} (hf:Fam w0 w (ML (l.set k (TbF b y d z t kk)) i j hb p m)):mG w b y d z t kk/\Fam w0 w (PL l i j k hb p b m t kk):=by
 have hs:(ML (l.set k (TbF b y d z t kk)) i j hb p m)[k]?=some (TbF b y d z t kk):=by
  unfold ML;rw [List.getElem?_set_ne (Ne.symm h.kj),List.getElem?_set_ne (Ne.symm h.ki),List.getElem?_set_self h.hk]
 have e:PL l i j k hb p b m t kk=(ML (l.set k (TbF b y d z t kk)) i j hb p m).set k (TbA b t kk):=by
  unfold PL ML;rw [List.set_comm _ _ (Ne.symm h.kj),List.set_comm _ _ (Ne.symm h.ki),List.set_set]
 obtain ⟨S,⟨h1,_⟩,_⟩:=hf.get k hs;refine ⟨h1,?_⟩;rw [e];exact hf.turn k hs fun S hS=>⟨S,⟨y,d,z,hS.1,hS.2⟩,fun k hk=>.inl hk,aI.refl _ _⟩
theorem PL.aCu (h:Three l i j k) (hf:Fam w0 w (PL l i j k hb p b m t kk)) (z:Nat) (hp:z≠2) (d:Nat):Fam w0 (((w.setCell ⟨b,3,none⟩ (.int .i64 (z:Int))).setCell ⟨b,4,none⟩ (.int .i64 0)).setCell ⟨b,5,none⟩ (.map none)) (PL l i j k hb p b m (t.at z 0) d):=by
 obtain ⟨ev,qv,mo,y⟩:=PL.tb h hf;have ho:Only [b] w (((w.setCell ⟨b,3,none⟩ (.int .i64 (z:Int))).setCell ⟨b,4,none⟩ (.int .i64 0)).setCell ⟨b,5,none⟩ (.map none)):=(((Only.refl _ w).set (.inl (by simp)) _).set (.inl (by simp)) _).set (.inl (by simp)) _;obtain ⟨h1,h2,h3⟩:=y.rest ho;refine PL.tbT h hf y ev qv none _ _ ⟨y.row.imp fun U x=>((x.set 3 _).set 4 _).set 5 _,h1,h2,fun mb e=>by (cases e),fun e=>absurd e hp,fun g hg=>⟨(y.n1 g hg).1,by simp,(y.n1 g hg).2.2⟩,fun g hg=>⟨(y.n2 g hg).1,by simp⟩,by simp⟩ (fun x hx=>?_) (ho.toP (fun x hx=>.inl (.inl (by simpa using hx))));rcases hx with hx|hx|hx|hx
 ·exact .inl (.inl hx)
 ·exact .inl (.inr (.inl hx))
 ·exact .inl (.inr (.inr (.inl hx)))
 cases hx
theorem PL.aCs (h:Three l i j k) (hf:Fam w0 w (PL l i j k hb p b m t kk)) {g n c:Nat} {qv:Value} {mo:Option Nat} (d:mG w b (.slice (some ⟨g,0,none⟩) n c) qv mo t kk) {x:Nat} (hx:x<t.ents.length):mG (w.setCell ⟨g,x*3+1,none⟩ (.int .i64 0)) b (.slice (some ⟨g,0,none⟩) n c) qv mo ⟨t.ents.set x (eAt t.ents x).off,t.q,t.ph,t.nx,t.fd⟩ kk/\Fam w0 (w.setCell ⟨g,x*3+1,none⟩ (.int .i64 0)) (PL l i j k hb p b m ⟨t.ents.set x (eAt t.ents x).off,t.q,t.ph,t.nx,t.fd⟩ kk):=by
 have hn:=d.n1 g rfl;have ho:Only [g] w (w.setCell ⟨g,x*3+1,none⟩ (.int .i64 0)):=(Only.refl _ w).set (.inl (by simp)) _;have hT:mG (w.setCell ⟨g,x*3+1,none⟩ (.int .i64 0)) b (.slice (some ⟨g,0,none⟩) n c) qv mo ⟨t.ents.set x (eAt t.ents x).off,t.q,t.ph,t.nx,t.fd⟩ kk:=
  ⟨d.row.imp fun U y=>ho.row y (by simpa using Ne.symm hn.1),d.ents.put hx 0 rfl,d.q.only ho (fun z hz e=>hn.2.2 (by simp at e;rw [<-e];exact hz)),fun mb e=>by
   obtain ⟨n,f,h1,h2⟩:=d.fnd mb e;exact ⟨n,f,h1.only (ho.toP (S:=fun x=>x=g) (fun x hx=>.inl (by simpa using hx))) (fun e2=>hn.2.1 (by rw [<-e2];exact e)),h2⟩,d.two,d.n1,d.n2,d.n3⟩
 exact ⟨hT,PL.tbT h hf d _ qv mo _ _ hT (fun x hx=>.inl hx) (ho.toP (fun x hx=>.inl (.inr (.inl (by simp at hx;rw [hx];rfl)))))⟩
theorem PL.aNy (h:Three l i j k) (hf:Fam w0 w (PL l i j k hb p b m t kk)) {ev qv:Value} {mo:Option Nat} (y:mG w b ev qv mo t kk) {z:World} {d:Value} {q':List Int} (he:aK z 0 d q') (ho:Only qv.ownBlock.toList w z) (h3:∀ g,d.ownBlock=some g->qv.ownBlock=some g\/w.heap.size<=g) :
  z.cell? ⟨b,2,none⟩=some qv/\z.frozen? ⟨b,2,none⟩=false/\mG (z.setCell ⟨b,2,none⟩ d) b ev d mo ⟨t.ents,q',t.ph,t.nx,t.fd⟩ kk/\Fam w0 (z.setCell ⟨b,2,none⟩ d) (PL l i j k hb p b m ⟨t.ents,q',t.ph,t.nx,t.fd⟩ kk):=by
 have h5:b<w.heap.size:=by obtain ⟨U,hr⟩:=y.row;exact hr.lt
 have h4:∃ U,Row z b U [.bool true,ev,qv,.int .i64 (t.ph:Int),.int .i64 (t.nx:Int),.map mo]:=y.row.imp fun U x=>ho.row x (fun hm=>(y.n2 b (jL hm)).1 rfl);have hP:aI (fun x=>x=b\/qv.ownBlock=some x) w (z.setCell ⟨b,2,none⟩ d):=((ho.toP (S:=fun x=>x=b\/qv.ownBlock=some x) (fun x hx=>.inl (.inr (jL hx))))).set (.inl (.inl rfl)) _;have hs:Only [b] z (z.setCell ⟨b,2,none⟩ d):=(Only.refl _ z).set (.inl (by simp)) _;have h0:∀ g,d.ownBlock=some g->g≠b/\mo≠some g/\ev.ownBlock≠some g:=fun g hg=>by
  rcases h3 g hg with h|h2
  ·exact ⟨(y.n2 g h).1,(y.n2 g h).2,fun e=>(y.n1 g e).2.2 h⟩
  refine ⟨by omega,fun e=>?_,fun e=>?_⟩
  ·obtain ⟨n,f,h1,_⟩:=y.fnd _ e;have:=h1.lt;omega
  have:=(y.ents.own _ e).2;omega
 obtain ⟨U,hr⟩:=h4;have hT:mG (z.setCell ⟨b,2,none⟩ d) b ev d mo ⟨t.ents,q',t.ph,t.nx,t.fd⟩ kk:=by
  refine ⟨⟨U,hr.set 2 _⟩,y.ents.dA hP (fun x hx=>?_),he.only hs (fun x hx=>by have:=(h0 x hx).1;simpa using this),fun mb e=>?_,y.two,fun g hg=>⟨(y.n1 g hg).1,(y.n1 g hg).2.1,fun e=>(h0 g e).2.2 hg⟩,fun g hg=>⟨(h0 g hg).1,(h0 g hg).2.1⟩,y.n3⟩
  ·rintro (h|h)
   ·exact (y.n1 x hx).1 h
   exact (y.n1 x hx).2.2 h
  obtain ⟨n,f,h1,h2⟩:=y.fnd mb e;refine ⟨n,f,h1.only hP ?_,h2⟩;rintro (h|h)
  ·exact y.n3 (by rw [<-h];exact e)
  exact (y.n2 mb h).2 e
 refine ⟨hr.cell 2 rfl,hr.free 2,hT,PL.tbT h hf y ev d mo _ _ hT (fun x hx=>?_) (hP.mono (fun x hx=>.inl ?_))⟩
 ·rcases hx with hx|hx|hx|hx
  ·exact .inl (.inl hx)
  ·exact .inl (.inr (.inl hx))
  ·rcases h3 x hx with h|h
   ·exact .inl (.inr (.inr (.inl h)))
   exact .inr h
  exact .inl (.inr (.inr (.inr hx)))
 rcases hx with hx|hx
 ·exact .inl hx
 exact .inr (.inr (.inl hx))
theorem Tb.Good.run (h:t.Good m) (d:m.M.Ok) (y:1<=t.ph):t.Run:=⟨h.b.le,y,h.p4,h.nl,fun i z=>h.b.tg d z,h.z3⟩
theorem gG (w:World) (d:Three l i j k) (hf:Fam w0 w (PL l i j k hb p b m t kk)) (z:t.ph=2->kk=t.ents.length) (hg:t.Good m) (y:1<=t.ph):Calls prog 75 #[.pointer (some ⟨b,0,none⟩),.pointer (some ⟨p,0,none⟩)] w (fun e w'=>e=.returned (.tuple #[])/\Fam w0 w' (PT l i j k hb p b m (t.settle m))):=by
 have h:=aEh w d hf z (hg.run (ML.ph d.t2 hf).1 y);refine h.mono fun e w1 ⟨y,h2⟩=>⟨y,?_⟩;show Fam w0 w1 (PL l i j k hb p b m (t.settle m) (t.settle m).ents.length);rw [Tb.gU.1];exact h2
theorem aGv (w:World) (T3:Three l i j k) (y:Fam w0 w (PT l i j k hb p b m t)) (hg:t.Good m):Calls prog 20 #[.pointer (some ⟨b,0,none⟩),.pointer (some ⟨p,0,none⟩)] w (fun e w'=>e=.returned (.int .i64 (t.begin m).1)/\Fam w0 w' (PT l i j k hb p b m (t.begin m).2)):=by
 refine aF fun R z=>?_;obtain ⟨ev,qv,mo,ht⟩:=PL.tb T3 y;obtain ⟨z0,z1,z2,z3,z4,z5,zf⟩:=ht.cells;have hn:=dY w z0;have ch:=jH w T3.t2 y;have cd:=yO w T3.t2 y;have HF:=aA y;have HG:=aA hg;unfold Tb.begin at z
 by_cases d:t.ph=0
 rotate_left
 ·rw [if_pos (.inl d)] at z;have h2:(0:Int)<(t.ph:Int):=by omega
  clear y hg ht z1 z2 z4 z5 zf d cd;generalize t.ph=ph at*;go_in;go_wp2_with fail;refine hn.mono ?_;rintro e _ ⟨rfl,rfl⟩;go_wp2_with fail;refine ch.mono ?_;rintro e _ ⟨rfl,rfl⟩;go_wp2;exact z.out _ _ ⟨rfl,HF.out⟩
 by_cases hl:m.list=[]
 rotate_left
 ·rw [if_pos (.inr hl)] at z;rw [decide_eq_false hl] at cd;rw [d] at z3;replace z3:w.cell? ⟨b,3,none⟩=some (.int .i64 0):=z3;clear y hg ht z1 z2 z4 z5 zf d hl;go_in;go_wp2_with fail;refine hn.mono ?_;rintro e _ ⟨rfl,rfl⟩;go_wp2_with fail;refine ch.mono ?_;rintro e _ ⟨rfl,rfl⟩;go_wp2_with fail;refine cd.mono ?_;rintro e _ ⟨rfl,rfl⟩;go_wp2;exact z.out _ _ ⟨rfl,HF.out⟩
 rw [if_neg (fun h=>h.elim (fun h=>h d) (fun h=>h hl))] at z;rw [decide_eq_true hl] at cd;have hP:Fam w0 (((w.setCell ⟨b,3,none⟩ (.int .i64 1)).setCell ⟨b,4,none⟩ (.int .i64 0)).setCell ⟨b,5,none⟩ (.map none)) (PL l i j k hb p b m (t.at 1 0) t.ents.length):=PL.aCu T3 y 1 (by omega) _;have h0:(t.at 1 0).Good m:=⟨hg.b.at _ _,by show 1<=4;omega,Nat.zero_le _,fun e=>by simp [Tb.at] at e,fun e=>by simp [Tb.at] at e⟩;have cs:=gG _ T3 hP (fun e=>by simp [Tb.at] at e) h0 (Nat.le_refl 1);have f3:=zf 3;have f4:=zf 4;have f5:=zf 5;rw [d] at z3;replace z3:w.cell? ⟨b,3,none⟩=some (.int .i64 0):=z3;clear y hg ht z1 z2 hP h0 zf d hl;go_in;go_wp2_with fail;refine hn.mono ?_;rintro e _ ⟨rfl,rfl⟩;go_wp2_with fail;refine ch.mono ?_;rintro e _ ⟨rfl,rfl⟩;go_wp2_with fail;refine cd.mono ?_;rintro e _ ⟨rfl,rfl⟩;go_wp2_with fail;refine cs.mono ?_;rintro e w1 ⟨rfl,y⟩;have h1:=aA y;clear y cs cd ch hn;go_wp2;exact z.out _ _ ⟨rfl,h1.out⟩
theorem aNX (w:World) (T3:Three l i j k) (y:Fam w0 w (PT l i j k hb p b m t)) (hg:t.Good m) (hm:m.Ok) (d:t.ph=0):Calls prog 68 #[.pointer (some ⟨b,0,none⟩),.pointer (some ⟨p,0,none⟩)] w (fun e w'=>e=.returned (.tuple #[.int .i64 (t.step m).1,.int .i64 (t.step m).2.1,.int .i64 (t.step m).2.2.1])/\Fam w0 w' (PT l i j k hb p b (t.step m).2.2.2.2 (t.step m).2.2.2.1)):=by
 refine aF fun R z=>?_;obtain ⟨ev,qv,mo,ht⟩:=PL.tb T3 y;obtain ⟨z0,z1,z2,z3,z4,z5,zf⟩:=ht.cells;have hn:=dY w z0;have ch:=jH w T3.t2 y;have HF:=aA y;unfold Tb.step at z;rw [if_pos d] at z;rw [d] at z3;replace z3:w.cell? ⟨b,3,none⟩=some (.int .i64 0):=z3;clear y hg hm ht z1 z2 z4 z5 zf d;go_in;go_wp2_with fail;refine hn.mono ?_;rintro e _ ⟨rfl,rfl⟩;go_wp2_with fail;refine ch.mono ?_;rintro e _ ⟨rfl,rfl⟩;go_wp2;refine bodyPost_ret (results_tmp3 rfl _ _ _) rfl ?_;exact z.out _ _ ⟨rfl,HF.out⟩
theorem aNW (w:World) (z:Three l i j k) (y:Fam w0 w (PT l i j k hb p b m t)) (hg:t.Good m) (hm:m.Ok) (hp:t.ph≠0) (h3:(t.settle m).ph=3):Calls prog 68 #[.pointer (some ⟨b,0,none⟩),.pointer (some ⟨p,0,none⟩)] w (fun e w'=>e=.returned (.tuple #[.int .i64 (t.step m).1,.int .i64 (t.step m).2.1,.int .i64 (t.step m).2.2.1])/\Fam w0 w' (PT l i j k hb p b (t.step m).2.2.2.2 (t.step m).2.2.2.1)):=by
 refine aF fun R hR=>?_;obtain ⟨ev,qv,mo,ht⟩:=PL.tb z y;obtain ⟨z0,z1,z2,d,z4,z5,zf⟩:=ht.cells;have hn:=dY w z0;have ch:=jH w z.t2 y;have cs:=gG w z y (fun _=>rfl) hg (by omega);have h6:((t.ph:Int) == 0)=false:=by rw [beq_eq_false_iff_ne];omega
 have HK:=aA hm.hf.ok;have HM:=aA hm;have h2:=hg.settle (m:=m) hm.hf.ok;have h4:=Tb.cO (m:=m) (t:=t) (by omega) hg.p4;unfold Tb.step at hR;rw [if_neg hp] at hR;simp only at hR;clear y hg hm ht z1 z2 z4 z5 zf hp;generalize t.settle m=s at*;have h5:=aA h2;have h7:=aA h4;clear h2 h4;rw [if_pos h3] at hR;have H3:=aA h3;clear h3;generalize t.ph=ph at*;go_in;go_wp2_with fail;refine hn.mono ?_;rintro e _ ⟨rfl,rfl⟩;go_wp2_with fail;refine ch.mono ?_;rintro e _ ⟨rfl,rfl⟩;go_wp2_with fail;refine cs.mono ?_;rintro e w1 ⟨rfl,y⟩;clear cs ch hn h6 z0 d;obtain ⟨ev,qv,mo,ht⟩:=PL.tb z y;obtain ⟨z0,z1,z2,d,z4,z5,zf⟩:=ht.cells;rw [H3.out] at d;replace d:w1.cell? ⟨b,3,none⟩=some (.int .i64 3):=d;have HF:=aA y;clear y ht zf z0 z1 z2 z5;generalize s.nx=nx at z4;go_wp2_with fail;go_quiet (fail);have h0:=HF.out.drewN nq;clear HF d z4;generalize w1.drewN nq=w2 at*;have cm:=aCU w2 z.t2 h0 HM.out;clear h0;go_wp2_with fail;refine cm.mono ?_;rintro e w3 ⟨rfl,y⟩;have hM:=Mk.mY (m:=m);have h1:s.Good m.step.2.2:=h5.out.marker (fun k hk=>by rw [hM];exact hk);have cs:=gG w3 z y (fun _=>rfl) h1 (by have:=H3.out;omega);clear y hM h1 cm;generalize m.step=r at*;obtain ⟨r1,r2,r3⟩:=r;go_wp2_with fail;refine cs.mono ?_;rintro e w4 ⟨rfl,y⟩;have HF:=aA y;clear y cs;go_wp2;refine bodyPost_ret (results_tmp3 rfl _ _ _) rfl ?_;exact hR.out _ _ ⟨rfl,HF.out⟩
theorem aGu (w:World) (T3:Three l i j k) (d:Fam w0 w (PT l i j k hb p b m t)) (hg:t.Good m) (hm:m.Ok) (hp:t.ph≠0) (h3:(t.settle m).ph≠3) (hl:(t.settle m).ents.length<=(t.settle m).nx):Calls prog 68 #[.pointer (some ⟨b,0,none⟩),.pointer (some ⟨p,0,none⟩)] w (fun e w'=>e=.returned (.tuple #[.int .i64 (t.step m).1,.int .i64 (t.step m).2.1,.int .i64 (t.step m).2.2.1])/\Fam w0 w' (PT l i j k hb p b (t.step m).2.2.2.2 (t.step m).2.2.2.1)):=by
 refine aF fun R hR=>?_;obtain ⟨ev,qv,mo,ht⟩:=PL.tb T3 d;obtain ⟨z0,z1,z2,z3,z4,z5,zf⟩:=ht.cells;have hn:=dY w z0;have ch:=jH w T3.t2 d;have cs:=gG w T3 d (fun _=>rfl) hg (by omega);have h7:((t.ph:Int) == 0)=false:=by rw [beq_eq_false_iff_ne];omega
 have HK:=aA hm.hf.ok;have HM:=aA hm;have h1:=hg.settle (m:=m) hm.hf.ok;have h5:=Tb.cO (m:=m) (t:=t) (by omega) hg.p4;unfold Tb.step at hR;rw [if_neg hp] at hR;simp only at hR;clear d hg hm ht z1 z2 z4 z5 zf hp;generalize t.settle m=s at*;have h9:=aA h1;have x1:=aA h5;clear h1 h5;rw [if_neg h3,if_pos hl] at hR;have H3:=aA h3;have HL:=aA hl;clear h3 hl;generalize t.ph=ph at*;go_in;go_wp2_with fail;refine hn.mono ?_;rintro e _ ⟨rfl,rfl⟩;go_wp2_with fail;refine ch.mono ?_;rintro e _ ⟨rfl,rfl⟩;go_wp2_with fail;refine cs.mono ?_;rintro e y ⟨rfl,d⟩;clear cs ch hn h7 z0 z3;obtain ⟨ev,qv,mo,ht⟩:=PL.tb T3 d;obtain ⟨z0,z1,z2,z3,z4,z5,zf⟩:=ht.cells;have x2:((s.ph:Int) == 3)=false:=by rw [beq_eq_false_iff_ne];have:=H3.out;omega
 have h2:(s.ents.length:Int)<=(s.nx:Int):=by have:=HL.out;omega
 have HP:Hid (∀ n,Fam w0 ((((y.drewN n).setCell ⟨b,3,none⟩ (.int .i64 0)).setCell ⟨b,4,none⟩ (.int .i64 0)).setCell ⟨b,5,none⟩ (.map none)) (PT l i j k hb p b m (s.at 0 0))):=fun n=>PL.aCu T3 (d.drewN n) 0 (by omega) _;have f3:=zf 3;have f4:=zf 4;have f5:=zf 5;obtain ⟨a,c,rfl⟩:=ht.ents.len;clear d ht zf z0 z2;generalize s.ph=sp at*;obtain ⟨nx,h4⟩:∃ z,z=s.nx:=⟨_,rfl⟩;rw [<-h4] at z4 h2;obtain ⟨h8,h0⟩:∃ z,z=s.ents.length:=⟨_,rfl⟩;rw [<-h0] at z1 h2;clear h4 h0;go_wp2_with fail;go_quiet (fail);have h6:=aA (HP.out nq);have y1:(y.drewN nq).cell? ⟨b,1,none⟩=some (.slice a h8 c):=z1;have y3:(y.drewN nq).cell? ⟨b,3,none⟩=some (.int .i64 (sp:Int)):=z3;have y4:(y.drewN nq).cell? ⟨b,4,none⟩=some (.int .i64 (nx:Int)):=z4;have y5:(y.drewN nq).cell? ⟨b,5,none⟩=some (.map mo):=z5;have g3:(y.drewN nq).frozen? ⟨b,3,none⟩=false:=f3;have g4:(y.drewN nq).frozen? ⟨b,4,none⟩=false:=f4;have g5:(y.drewN nq).frozen? ⟨b,5,none⟩=false:=f5;clear HP z1 z3 z4 z5 f3 f4 f5;generalize y.drewN nq=w2 at*;go_wp2;refine bodyPost_ret (results_tmp3 rfl _ _ _) rfl ?_;exact hR.out _ _ ⟨rfl,h6.out⟩
theorem aLv (w:World) (y:Three l i j k) (hf:Fam w0 w (PT l i j k hb p b m t)) (hg:t.Good m) (hm:m.Ok) (hp:t.ph≠0) (h3:(t.settle m).ph≠3) (hl:¬ (t.settle m).ents.length<=(t.settle m).nx) (h2:(t.settle m).ph≠2) (hw:m.isW (eAt (t.settle m).ents (t.settle m).nx).tgt=true):Calls prog 68 #[.pointer (some ⟨b,0,none⟩),.pointer (some ⟨p,0,none⟩)] w (fun e w'=>e=.returned (.tuple #[.int .i64 (t.step m).1,.int .i64 (t.step m).2.1,.int .i64 (t.step m).2.2.1])/\Fam w0 w' (PT l i j k hb p b (t.step m).2.2.2.2 (t.step m).2.2.2.1)):=by
 refine aF fun R hR=>?_;obtain ⟨ev,qv,mo,ht⟩:=PL.tb y hf;obtain ⟨z0,z1,z2,z3,z4,z5,zf⟩:=ht.cells;have hn:=dY w z0;have ch:=jH w y.t2 hf;have cs:=gG w y hf (fun _=>rfl) hg (by omega);have y7:((t.ph:Int) == 0)=false:=by rw [beq_eq_false_iff_ne];omega
 have HK:=aA hm.hf.ok;have HM:=aA hm;have x5:=hg.settle (m:=m) hm.hf.ok;have x7:=Tb.cO (m:=m) (t:=t) (by omega) hg.p4;unfold Tb.step at hR;rw [if_neg hp] at hR;simp only at hR;clear hf hg hm ht z1 z2 z4 z5 zf hp;generalize t.settle m=s at*;have d:=aA x5;have h1:=aA x7;clear x5 x7;rw [if_neg h3,if_neg hl] at hR;have H3:=aA h3;have HL:=aA hl;have x1:Hid (s.clear m s.nx=(⟨s.ents.set s.nx (eAt s.ents s.nx).off,s.q,s.ph,s.nx,s.fd⟩,m)):=by show _=_;unfold Tb.clear;simp only;rw [if_neg h2,if_pos hw]
 have H2:=aA h2;have HW:=aA hw;clear h3 hl h2 hw;generalize t.ph=ph at*;go_in;go_wp2_with fail;refine hn.mono ?_;rintro e _ ⟨rfl,rfl⟩;go_wp2_with fail;refine ch.mono ?_;rintro e _ ⟨rfl,rfl⟩;go_wp2_with fail;refine cs.mono ?_;rintro e w1 ⟨rfl,hf⟩;clear cs ch hn y7 z0 z3;obtain ⟨ev,qv,mo,ht⟩:=PL.tb y hf;obtain ⟨z0,z1,z2,z3,z4,z5,zf⟩:=ht.cells;have hi:s.nx<s.ents.length:=by have:=HL.out;omega
 have y6:((s.ph:Int) == 3)=false:=by rw [beq_eq_false_iff_ne];have:=H3.out;omega
 have z7:(s.nx:Int)<(s.ents.length:Int):=by omega
 have z8:¬ ((s.ents.length:Int)<=(s.nx:Int)):=by omega
 have z6:(0:Int)<=(s.nx:Int):=by omega
 have y9:s.nx<20:=by have:=d.out.b.le;omega
 have h9:=aA (Tb.Good.clear d.out h1.out hi H3.out HM.out);rw [x1.out] at hR h9;have HI:=aA hi;have y3:Hid (wfI (eAt s.ents s.nx).tgt):=dL (by have:=d.out.b.tg HK.out hi;omega);have y1:=aA h1.out.p1;obtain ⟨g,cap,rfl,x4,_,c0,c1,c2,cf⟩:=ht.ents.at hi;have HF:=aA hf;have HT:=aA ht;clear hf ht zf z0 z1 z2 z5 c0 c1 c2 cf x4 hi d h1 H3 HL x1;have y5:((s.ph:Int) == 2)=false:=by rw [beq_eq_false_iff_ne];have:=H2.out;omega
 obtain ⟨sp,h6⟩:∃ z,z=s.ph:=⟨_,rfl⟩;rw [<-h6] at z3 y6 y5;have y2:=aA h6;clear h6;go_wp2_with fail;go_quiet (fail);have h4:=HF.out.drewN nq;have h0:=HT.out.aN ((Only.refl [] w1).drewN nq);clear HF HT z3 z4;generalize w1.drewN nq=w2 at*;obtain ⟨z0,z1,z2,z3,z4,z5,zf⟩:=h0.cells;obtain ⟨g2,x8,hv,x4,_,c0,c1,c2,cf⟩:=h0.ents.at HI.out;simp only [Value.slice.injEq,Option.some.injEq,Addr.mk.injEq,and_true,true_and] at hv;obtain ⟨rfl,rfl⟩:=hv;have cw:=qA w2 y.t2 h4 (eAt s.ents s.nx).tgt y3.out;rw [HW.out] at cw;have HF:=aA h4;have HT:=aA h0;clear h4 h0 z0 z2 z5 c0 c2 z3 z4 zf cf;go_wp2_with fail;refine cw.mono ?_;rintro e _ ⟨rfl,n9,rfl⟩;have x2:=HF.out.drewN n9;have h7:=HT.out.aN ((Only.refl [] w2).drewN n9);clear HF HT cw z1 c1;generalize w2.drewN n9=w3 at*;obtain ⟨y8,h5⟩:=PL.aCs y x2 h7 HI.out;obtain ⟨g2,x8,hv,_,_,_,c1,_,cf⟩:=h7.ents.at HI.out;simp only [Value.slice.injEq,Option.some.injEq,Addr.mk.injEq,and_true,true_and] at hv;obtain ⟨rfl,rfl⟩:=hv;have f1:=cf (s.nx*3+1);have y0:Hid (s.ents.length=(s.ents.set s.nx (eAt s.ents s.nx).off).length):=by show _=_;rw [List.length_set]
 clear x2 h7 cf y8;have x6:=PL.aCt y h5 (s.nx+1);have cs:=gG _ y x6 (fun _=>y0.out) h9.out y1.out;have e1:((s.nx+1:Nat):Int)=(s.nx:Int)+1:=by omega
 rw [e1] at cs;obtain ⟨_,_,_,h8⟩:=PL.tb y h5;have y4:(w3.setCell ⟨g,s.nx*3+1,none⟩ (.int .i64 0)).cell? ⟨b,4,none⟩=some (.int .i64 (s.nx:Int)):=h8.cells.2.2.2.2.1;have g4:=h8.cells.2.2.2.2.2.2 4;clear x6 h8 e1 h5;generalize s.nx=nx at*;generalize s.ents.length=z9 at*;go_wp2_with fail;refine cs.mono ?_;rintro e w6 ⟨rfl,x3⟩;have x9:=aA x3;clear cs x3;go_wp2;refine bodyPost_ret (results_tmp3 rfl _ _ _) rfl ?_;rw [y2.out];exact hR.out _ _ ⟨rfl,x9.out⟩
theorem aLw (w:World) (T3:Three l i j k) (hf:Fam w0 w (PT l i j k hb p b m t)) (hg:t.Good m) (hm:m.Ok) (hp:t.ph≠0) (h3:(t.settle m).ph≠3) (hl:¬ (t.settle m).ents.length<=(t.settle m).nx) (h2:(t.settle m).ph≠2) (hw:m.isW (eAt (t.settle m).ents (t.settle m).nx).tgt=false):Calls prog 68 #[.pointer (some ⟨b,0,none⟩),.pointer (some ⟨p,0,none⟩)] w (fun e w'=>e=.returned (.tuple #[.int .i64 (t.step m).1,.int .i64 (t.step m).2.1,.int .i64 (t.step m).2.2.1])/\Fam w0 w' (PT l i j k hb p b (t.step m).2.2.2.2 (t.step m).2.2.2.1)):=by
 refine aF fun R hR=>?_;obtain ⟨ev,qv,mo,ht⟩:=PL.tb T3 hf;obtain ⟨z0,z1,z2,z3,z4,z5,zf⟩:=ht.cells;have hn:=dY w z0;have ch:=jH w T3.t2 hf;have cs:=gG w T3 hf (fun _=>rfl) hg (by omega);have y2:((t.ph:Int) == 0)=false:=by rw [beq_eq_false_iff_ne];omega
 have HK:=aA hm.hf.ok;have HM:=aA hm;have x2:=hg.settle (m:=m) hm.hf.ok;have x4:=Tb.cO (m:=m) (t:=t) (by omega) hg.p4;unfold Tb.step at hR;rw [if_neg hp] at hR;simp only at hR;clear hf hg hm ht z1 z2 z4 z5 zf hp;generalize t.settle m=s at*;have y:=aA x2;have h0:=aA x4;clear x2 x4;rw [if_neg h3,if_neg hl] at hR;have H3:=aA h3;have HL:=aA hl;have h8:Hid (s.clear m s.nx=(s,m)):=by show _=_;unfold Tb.clear;simp only;rw [if_neg h2,if_neg (by rw [hw];simp)]
 have H2:=aA h2;have HW:=aA hw;clear h3 hl h2 hw;generalize t.ph=ph at*;go_in;go_wp2_with fail;refine hn.mono ?_;rintro e _ ⟨rfl,rfl⟩;go_wp2_with fail;refine ch.mono ?_;rintro e _ ⟨rfl,rfl⟩;go_wp2_with fail;refine cs.mono ?_;rintro e w1 ⟨rfl,hf⟩;clear cs ch hn y2 z0 z3;obtain ⟨ev,qv,mo,ht⟩:=PL.tb T3 hf;obtain ⟨z0,z1,z2,z3,z4,z5,zf⟩:=ht.cells;have hi:s.nx<s.ents.length:=by have:=HL.out;omega
 have y1:((s.ph:Int) == 3)=false:=by rw [beq_eq_false_iff_ne];have:=H3.out;omega
 have y8:(s.nx:Int)<(s.ents.length:Int):=by omega
 have y9:¬ ((s.ents.length:Int)<=(s.nx:Int)):=by omega
 have y7:(0:Int)<=(s.nx:Int):=by omega
 have y6:s.nx<20:=by have:=y.out.b.le;omega
 have h7:=aA (Tb.Good.clear y.out h0.out hi H3.out HM.out);rw [h8.out] at hR h7;have HI:=aA hi;have x9:Hid (wfI (eAt s.ents s.nx).tgt):=dL (by have:=y.out.b.tg HK.out hi;omega);have x7:=aA h0.out.p1;obtain ⟨g,cap,rfl,x1,_,c0,c1,c2,cf⟩:=ht.ents.at hi;have HF:=aA hf;have HT:=aA ht;clear hf ht zf z0 z1 z2 z5 c0 c1 c2 cf x1 hi y h0 H3 HL h8;have y0:((s.ph:Int) == 2)=false:=by rw [beq_eq_false_iff_ne];have:=H2.out;omega
 obtain ⟨sp,h5⟩:∃ z,z=s.ph:=⟨_,rfl⟩;rw [<-h5] at z3 y1 y0;have x8:=aA h5;clear h5;go_wp2_with fail;go_quiet (fail);have h1:=HF.out.drewN nq;have d:=HT.out.aN ((Only.refl [] w1).drewN nq);clear HF HT z3 z4;generalize w1.drewN nq=w2 at*;obtain ⟨z0,z1,z2,z3,z4,z5,zf⟩:=d.cells;obtain ⟨g2,y5,hv,x1,_,c0,c1,c2,cf⟩:=d.ents.at HI.out;simp only [Value.slice.injEq,Option.some.injEq,Addr.mk.injEq,and_true,true_and] at hv;obtain ⟨rfl,rfl⟩:=hv;have cw:=qA w2 T3.t2 h1 (eAt s.ents s.nx).tgt x9.out;rw [HW.out] at cw;have HF:=aA h1;have HT:=aA d;clear h1 d z0 z2 z5 c0 c2 z3 z4 zf cf;go_wp2_with fail;refine cw.mono ?_;rintro e _ ⟨rfl,n9,rfl⟩;have h4:=HF.out.drewN n9;have y3:=HT.out.aN ((Only.refl [] w2).drewN n9);clear HF HT cw z1 c1;generalize w2.drewN n9=w3 at*;have x6:Hid (s.ents.length=s.ents.length):=rfl;clear y3;have x3:=PL.aCt T3 h4 (s.nx+1);have cs:=gG _ T3 x3 (fun _=>x6.out) h7.out x7.out;have e1:((s.nx+1:Nat):Int)=(s.nx:Int)+1:=by omega
 rw [e1] at cs;obtain ⟨_,_,_,h6⟩:=PL.tb T3 h4;have y4:w3.cell? ⟨b,4,none⟩=some (.int .i64 (s.nx:Int)):=h6.cells.2.2.2.2.1;have g4:=h6.cells.2.2.2.2.2.2 4;clear x3 h6 e1 h4;generalize s.nx=nx at*;generalize s.ents.length=z6 at*;go_wp2_with fail;refine cs.mono ?_;rintro e w6 ⟨rfl,h9⟩;have x5:=aA h9;clear cs h9;go_wp2;refine bodyPost_ret (results_tmp3 rfl _ _ _) rfl ?_;rw [x8.out];exact hR.out _ _ ⟨rfl,x5.out⟩
theorem PL.queued (h:Three l i j k) (hf:Fam w0 w (PL l i j k hb p b m t kk)) {ev qv:Value} {mo:Option Nat} (ht:mG w b ev qv mo t kk) (o:Obj) {d:World} {z cap n:Nat} {q':List Int} (hl:q'.length=n) (e:d.ownsRow 0 3 1 (.slice (some ⟨z,0,none⟩) n cap) n (q'.map (Value.int .i64))) (y:(w.alloc o).drew.grownBy d qv.ownBlock) (h0:qv.ownBlock=some z\/z=w.heap.size+1) :
  d.cell? ⟨b,2,none⟩=some qv/\d.frozen? ⟨b,2,none⟩=false/\mG (d.setCell ⟨b,2,none⟩ (.slice (some ⟨z,0,none⟩) n cap)) b ev (.slice (some ⟨z,0,none⟩) n cap) mo ⟨t.ents,q',t.ph,t.nx,t.fd⟩ kk/\Fam w0 (d.setCell ⟨b,2,none⟩ (.slice (some ⟨z,0,none⟩) n cap)) (PL l i j k hb p b m ⟨t.ents,q',t.ph,t.nx,t.fd⟩ kk):=by
 have ho:Only [] w (w.alloc o).drew:=((Only.refl [] w).alloc o).drew;refine PL.aNy h (hf.aN ho) (ht.aN ho) (by unfold aK;rw [hl];exact e) ((Only.refl _ _).grown y (fun k hk=>.inl (by rw [hk];simp))) (fun g hg=>?_)
 cases hg
 rcases h0 with h|h
 ·exact .inl h
 refine .inr ?_;show (w.alloc o).heap.size<=_;rw [h];simp
theorem aLy (w:World) (T3:Three l i j k) (hf:Fam w0 w (PT l i j k hb p b m t)) (hg:t.Good m) (hm:m.Ok) (hp:t.ph≠0) (h3:(t.settle m).ph≠3) (hl:¬ (t.settle m).ents.length<=(t.settle m).nx) (h2:(t.settle m).ph=2) (hw:(t.settle m).fd (t.settle m).nx=false):Calls prog 68 #[.pointer (some ⟨b,0,none⟩),.pointer (some ⟨p,0,none⟩)] w (fun e w'=>e=.returned (.tuple #[.int .i64 (t.step m).1,.int .i64 (t.step m).2.1,.int .i64 (t.step m).2.2.1])/\Fam w0 w' (PT l i j k hb p b (t.step m).2.2.2.2 (t.step m).2.2.2.1)):=by
 refine aF fun R hR=>?_;obtain ⟨ev,qv,mo,ht⟩:=PL.tb T3 hf;obtain ⟨z0,z1,z2,z3,z4,z5,zf⟩:=ht.cells;have hn:=dY w z0;have ch:=jH w T3.t2 hf;have cs:=gG w T3 hf (fun _=>rfl) hg (by omega);have y9:((t.ph:Int) == 0)=false:=by rw [beq_eq_false_iff_ne];omega
 have HK:=aA hm.hf.ok;have HM:=aA hm;have x6:=hg.settle (m:=m) hm.hf.ok;have x9:=Tb.cO (m:=m) (t:=t) (by omega) hg.p4;unfold Tb.step at hR;rw [if_neg hp] at hR;simp only at hR;clear hf hg hm ht z1 z2 z4 z5 zf hp;generalize t.settle m=s at*;have h0:=aA x6;have h1:=aA x9;clear x6 x9;rw [if_neg h3,if_neg hl] at hR;have H3:=aA h3;have HL:=aA hl;have h9:Hid (s.clear m s.nx=(s,m)):=by show _=_;unfold Tb.clear;simp only;rw [if_pos h2,if_neg (by rw [hw];simp)]
 have H2:=aA h2;have HW:=aA hw;clear h3 hl h2 hw;generalize t.ph=ph at*;go_in;go_wp2_with fail;refine hn.mono ?_;rintro e _ ⟨rfl,rfl⟩;go_wp2_with fail;refine ch.mono ?_;rintro e _ ⟨rfl,rfl⟩;go_wp2_with fail;refine cs.mono ?_;rintro e w1 ⟨rfl,hf⟩;clear cs ch hn y9 z0 z3;obtain ⟨ev,qv,mo,ht⟩:=PL.tb T3 hf;obtain ⟨z0,z1,z2,z3,z4,z5,zf⟩:=ht.cells;have hi:s.nx<s.ents.length:=by have:=HL.out;omega
 have y7:((s.ph:Int) == 3)=false:=by rw [beq_eq_false_iff_ne];have:=H3.out;omega
 have a0:(s.nx:Int)<(s.ents.length:Int):=by omega
 have a1:¬ ((s.ents.length:Int)<=(s.nx:Int)):=by omega
 have z9:(0:Int)<=(s.nx:Int):=by omega
 have z8:s.nx<20:=by have:=h0.out.b.le;omega
 have h8:=aA (Tb.Good.clear h0.out h1.out hi H3.out HM.out);rw [h9.out] at hR h8;have HI:=aA hi;have z7:Hid (wfI (eAt s.ents s.nx).tgt):=dL (by have:=h0.out.b.tg HK.out hi;omega);have y2:=aA h1.out.p1;obtain ⟨g,cap,rfl,x5,_,c0,c1,c2,cf⟩:=ht.ents.at hi;have HF:=aA hf;have HT:=aA ht;clear hf ht zf z0 z1 z2 z5 c0 c1 c2 cf x5 hi h0 h1 H3 HL h9;have y6:((s.ph:Int) == 2)=true:=by rw [H2.out];rfl
 obtain ⟨sp,h5⟩:∃ z,z=s.ph:=⟨_,rfl⟩;rw [<-h5] at z3 y7 y6;have y3:=aA h5;clear h5;go_wp2_with fail;go_quiet (fail);have x1:=HF.out.drewN nq;have d:=HT.out.aN ((Only.refl [] w1).drewN nq);clear HF HT z3 z4;generalize w1.drewN nq=w2 at*;obtain ⟨z0,z1,z2,z3,z4,z5,zf⟩:=d.cells;obtain ⟨g2,z6,hv,x5,_,c0,c1,c2,cf⟩:=d.ents.at HI.out;simp only [Value.slice.injEq,Option.some.injEq,Addr.mk.injEq,and_true,true_and] at hv;obtain ⟨rfl,rfl⟩:=hv;have h4:s.ph=2:=H2.out;have x7:mo≠none:=d.two h4 (by have:=HI.out;omega);obtain ⟨mb,rfl⟩:∃ mb,mo=some mb:=by
  cases mo with
  | none=>exact absurd rfl x7
  | some mb=>exact ⟨mb,rfl⟩
 obtain ⟨fn,ff,x3,y5,x4⟩:=d.fnd mb rfl;obtain ⟨y8,y⟩:=x4 h4;have h7:=x3.look (k:=s.nx) (by have:=HI.out;omega) (by omega);rw [y s.nx HI.out,HW.out] at h7;have y1:Hid (s.ents.length=s.ents.length):=rfl;have y:=x1;clear x1 d x7 x3 y5 x4 y8 z0 z2 zf c0 c1 c2 cf h4 z3 z4;have x8:=PL.aCt T3 y (s.nx+1);have cs:=gG _ T3 x8 (fun _=>y1.out) h8.out y2.out;have e1:((s.nx+1:Nat):Int)=(s.nx:Int)+1:=by omega
 rw [e1] at cs;obtain ⟨_,_,_,h6⟩:=PL.tb T3 y;have y4:w2.cell? ⟨b,4,none⟩=some (.int .i64 (s.nx:Int)):=h6.cells.2.2.2.2.1;have g4:=h6.cells.2.2.2.2.2.2 4;clear x8 h6 e1 y;generalize s.nx=nx at*;generalize s.ents.length=a2 at*;go_wp2_with fail;refine cs.mono ?_;rintro e w6 ⟨rfl,x2⟩;have y0:=aA x2;clear cs x2;go_wp2;refine bodyPost_ret (results_tmp3 rfl _ _ _) rfl ?_;rw [y3.out];exact hR.out _ _ ⟨rfl,y0.out⟩
theorem aLx (w:World) (T3:Three l i j k) (hf:Fam w0 w (PT l i j k hb p b m t)) (hg:t.Good m) (hm:m.Ok) (hp:t.ph≠0) (h3:(t.settle m).ph≠3) (hl:¬ (t.settle m).ents.length<=(t.settle m).nx) (h2:(t.settle m).ph=2) (hw:(t.settle m).fd (t.settle m).nx=true):Calls prog 68 #[.pointer (some ⟨b,0,none⟩),.pointer (some ⟨p,0,none⟩)] w (fun e w'=>e=.returned (.tuple #[.int .i64 (t.step m).1,.int .i64 (t.step m).2.1,.int .i64 (t.step m).2.2.1])/\Fam w0 w' (PT l i j k hb p b (t.step m).2.2.2.2 (t.step m).2.2.2.1)):=by
 refine aF fun R hR=>?_;obtain ⟨ev,qv,mo,ht⟩:=PL.tb T3 hf;obtain ⟨z0,z1,z2,z3,z4,z5,zf⟩:=ht.cells;have hn:=dY w z0;have ch:=jH w T3.t2 hf;have cs:=gG w T3 hf (fun _=>rfl) hg (by omega);have b9:((t.ph:Int) == 0)=false:=by rw [beq_eq_false_iff_ne];omega
 have HK:=aA hm.hf.ok;have HM:=aA hm;have z7:=hg.settle (m:=m) hm.hf.ok;have a2:=Tb.cO (m:=m) (t:=t) (by omega) hg.p4;unfold Tb.step at hR;rw [if_neg hp] at hR;simp only at hR;clear hf hg hm ht z1 z2 z4 z5 zf hp;generalize t.settle m=s at*;have h0:=aA z7;have x1:=aA a2;clear z7 a2;rw [if_neg h3,if_neg hl] at hR;have H3:=aA h3;have HL:=aA hl;have x9:Hid (s.clear m s.nx=(⟨s.ents.set s.nx (eAt s.ents s.nx).off,s.q ++ [(eAt s.ents s.nx).tag],s.ph,s.nx,s.fd⟩,m.bI (eAt s.ents s.nx).tgt)):=by show _=_;unfold Tb.clear;simp only;rw [if_pos h2,if_pos hw]
 have H2:=aA h2;have HW:=aA hw;have b4:Hid (s.q.length<=20):=h0.out.b.q20;clear h3 hl h2 hw;generalize t.ph=ph at*;go_in;go_wp2_with fail;refine hn.mono ?_;rintro e _ ⟨rfl,rfl⟩;go_wp2_with fail;refine ch.mono ?_;rintro e _ ⟨rfl,rfl⟩;go_wp2_with fail;refine cs.mono ?_;rintro e w1 ⟨rfl,hf⟩;clear cs ch hn b9 z0 z3;obtain ⟨ev,qv,mo,ht⟩:=PL.tb T3 hf;obtain ⟨z0,z1,z2,z3,z4,z5,zf⟩:=ht.cells;have hi:s.nx<s.ents.length:=by have:=HL.out;omega
 have b6:((s.ph:Int) == 3)=false:=by rw [beq_eq_false_iff_ne];have:=H3.out;omega
 have d2:(s.nx:Int)<(s.ents.length:Int):=by omega
 have d3:¬ ((s.ents.length:Int)<=(s.nx:Int)):=by omega
 have d0:(0:Int)<=(s.nx:Int):=by omega
 have c9:s.nx<20:=by have:=h0.out.b.le;omega
 have x8:=aA (Tb.Good.clear h0.out x1.out hi H3.out HM.out);rw [x9.out] at hR x8;have HI:=aA hi;have b2:Hid (wfI (eAt s.ents s.nx).tgt):=dL (by have:=h0.out.b.tg HK.out hi;omega);have b0:=aA x1.out.p1;obtain ⟨g,cap,rfl,z6,_,c0,c1,c2,cf⟩:=ht.ents.at hi;have HF:=aA hf;have HT:=aA ht;clear hf ht zf z0 z1 z2 z5 c0 c1 c2 cf z6 hi h0 x1 H3 HL x9;have b5:((s.ph:Int) == 2)=true:=by rw [H2.out];rfl
 obtain ⟨sp,x4⟩:∃ z,z=s.ph:=⟨_,rfl⟩;rw [<-x4] at z3 b6 b5;have b1:=aA x4;clear x4;go_wp2_with fail;go_quiet (fail);have y5:=HF.out.drewN nq;have y:=HT.out.aN ((Only.refl [] w1).drewN nq);clear HF HT z3 z4;generalize w1.drewN nq=w2 at*;obtain ⟨z0,z1,z2,z3,z4,z5,zf⟩:=y.cells;obtain ⟨g2,a6,hv,z6,_,c0,c1,c2,cf⟩:=y.ents.at HI.out;simp only [Value.slice.injEq,Option.some.injEq,Addr.mk.injEq,and_true,true_and] at hv;obtain ⟨rfl,rfl⟩:=hv;have x2:s.ph=2:=H2.out;have z9:mo≠none:=y.two x2 (by have:=HI.out;omega);obtain ⟨mb,rfl⟩:∃ mb,mo=some mb:=by
  cases mo with
  | none=>exact absurd rfl z9
  | some mb=>exact ⟨mb,rfl⟩
 obtain ⟨fn,ff,y8,b3,y9⟩:=y.fnd mb rfl;obtain ⟨b7,y6⟩:=y9 x2;have h7:=y8.look (k:=s.nx) (by have:=HI.out;omega) (by omega);rw [y6 s.nx HI.out,HW.out] at h7;have a9:Hid (s.ents.length=(s.ents.set s.nx (eAt s.ents s.nx).off).length):=by show _=_;rw [List.length_set]
 have HF:=aA y5;have HT:=aA y;have x3:=y.q;obtain ⟨qa,qc,rfl⟩:=x3.len;obtain ⟨qn,h4⟩:∃ z,z=s.q.length:=⟨_,rfl⟩;have h1:=aA h4;have y1:Hid (w2.ownsRow 0 3 1 (.slice qa qn qc) qn (s.q.map (Value.int .i64))):=by rw [h4];exact x3
 rw [<-h4] at z2;have c8:qn<=20:=by rw [h4];exact b4.out
 obtain ⟨i0,z8,a3,a4,a5⟩:=info_parts jV;have I0:=aA z8;have I1:=aA a3;have I2:=aA a4;have I3:=aA a5;have c6:=zf 2;clear y5 y z9 y8 b3 y9 b7 y6 z0 zf c0 c1 cf x2 z3 z4 x3 h4 z8 a3 a4 a5;generalize c7:(eAt s.ents s.nx).tag=h5 at*;have c5:(w2.alloc (.cells #[.int .i64 h5] 3)).cell? ⟨b,2,none⟩=some (.slice qa qn qc):=by
  rw [h1.out];exact (HT.out.aN ((Only.refl [] w2).alloc (.cells #[.int .i64 h5] 3))).cells.2.2.1
 go_wp2;go_region_law ((refine step_append_lies _ (by rfl) _ _ 23 (by rfl) 0 3 i0 _ 1 8 Tryz.underlying23 I0.out I1.out I2.out I3.out rfl (by omega) _ qn _ (by rfl) ((y1.out.alloc _).drew) ⟨w2.heap.size,0,none⟩ 1 1 [.int .i64 h5] (by rfl) (by rfl) (World.news_of_block (cs:=#[.int .i64 h5]) (t:=3) (fr:=(0,0)) (heap_alloc_new w2 _)) (by simp [Value.oneCell']) (by omega) (by simp only [maxLen];omega) (by omega) (by simp) (w2.heap.size+1) (by simp) ?_;intro gg a6 w3 h9 h6 y3 b8;have c3:=PL.queued T3 HF.out HT.out _ (n:=qn+1) (q':=s.q ++ [h5]) (by simp [<-h1.out]) (by simpa using h9) (by rw [<-h1.out];exact h6) (by rw [<-h1.out];exact y3);obtain ⟨cp,fp,a1⟩:=c3;rw [<-h1.out] at cp;have y0:=aA a1;clear a1 h9 h6 y3 b8))
 all_goals (
  obtain ⟨x5,y7⟩:=y0.out;obtain ⟨g2,a7,hv,_,_,_,c1,_,cf⟩:=x5.ents.at HI.out;simp only [Value.slice.injEq,Option.some.injEq,Addr.mk.injEq,and_true,true_and] at hv;obtain ⟨rfl,rfl⟩:=hv;replace c1:_=some (Value.int .i64 (eAt s.ents s.nx).tgt):=c1;have y2:=aAH _ T3.t2 (PL.fixed T3 y7 x5) HM.out (eAt s.ents s.nx).tgt b2.out;clear x5 y7 y0 cp fp cf c2 z2 c5 c6 h7 z5 z1 y1;generalize (w3.setCell ⟨b,2,none⟩ _)=w4 at*;go_wp2_with fail;refine y2.mono ?_;rintro e w5 ⟨rfl,h8⟩;obtain ⟨x6,h8⟩:=PL.aRw T3 h8;obtain ⟨c4,d⟩:=PL.aCs T3 h8 x6 HI.out;obtain ⟨g2,a7,hv,_,_,_,d1,_,cf⟩:=x6.ents.at HI.out;simp only [Value.slice.injEq,Option.some.injEq,Addr.mk.injEq,and_true,true_and] at hv;obtain ⟨rfl,rfl⟩:=hv;have f1:=cf (s.nx*3+1);clear h8 x6 cf c4 y2 c1;have a0:=PL.aCt T3 d (s.nx+1);have cs:=gG _ T3 a0 (fun _=>a9.out) x8.out b0.out;have e1:((s.nx+1:Nat):Int)=(s.nx:Int)+1:=by omega
  rw [e1] at cs;obtain ⟨_,_,_,x7⟩:=PL.tb T3 d;have y4:(w5.setCell ⟨g,s.nx*3+1,none⟩ (.int .i64 0)).cell? ⟨b,4,none⟩=some (.int .i64 (s.nx:Int)):=x7.cells.2.2.2.2.1;have g4:=x7.cells.2.2.2.2.2.2 4;clear a0 x7 e1 d;generalize s.nx=nx at*;generalize s.ents.length=d4 at*;go_wp2_with fail;refine cs.mono ?_;rintro e w6 ⟨rfl,d⟩;have a8:=aA d;clear cs d;go_wp2;refine bodyPost_ret (results_tmp3 rfl _ _ _) rfl ?_;rw [b1.out];exact hR.out _ _ ⟨rfl,a8.out⟩)
end
section
variable {l:List Asn} {i j k hb p b:Nat} {m:Mk} {t:Tb} {kk:Nat} {w0 w w':World}
theorem aIE (w:World) (y:Three l i j k) (z:Fam w0 w (PT l i j k hb p b m t)) (d:t.Good m) (hm:m.Ok):Calls prog 68 #[.pointer (some ⟨b,0,none⟩),.pointer (some ⟨p,0,none⟩)] w (fun e w'=>e=.returned (.tuple #[.int .i64 (t.step m).1,.int .i64 (t.step m).2.1,.int .i64 (t.step m).2.2.1])/\Fam w0 w' (PT l i j k hb p b (t.step m).2.2.2.2 (t.step m).2.2.2.1)):=by
 by_cases hp:t.ph=0
 ·exact aNX w y z d hm hp
 by_cases h3:(t.settle m).ph=3
 ·exact aNW w y z d hm hp h3
 by_cases hl:(t.settle m).ents.length<=(t.settle m).nx
 ·exact aGu w y z d hm hp h3 hl
 by_cases h2:(t.settle m).ph=2
 ·cases hw:(t.settle m).fd (t.settle m).nx
  ·exact aLy w y z d hm hp h3 hl h2 hw
  exact aLx w y z d hm hp h3 hl h2 hw
 cases hw:m.isW (eAt (t.settle m).ents (t.settle m).nx).tgt
 ·exact aLw w y z d hm hp h3 hl h2 hw
 exact aLv w y z d hm hp h3 hl h2 hw
end
end Go.Proofs.YthflghdaejbdkaaGreat
