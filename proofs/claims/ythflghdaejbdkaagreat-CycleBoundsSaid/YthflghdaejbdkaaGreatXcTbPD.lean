/- Lemmas of this claim. -/
import Derived.Test.YthflghdaejbdkaaGreatXcTbPC
namespace Go.Proofs.YthflghdaejbdkaaGreat
open Go.RowKit Go.Maps
set_option maxHeartbeats 6400000
set_option maxRecDepth 100000
set_option linter.unusedVariables false
structure Tb.Run (t:Tb):Prop where
 le:t.ents.length<=20
 p1:1<=t.ph
 p4:t.ph<=4
 nl:t.nx<=t.ents.length
 tg:∀ i,i<t.ents.length->0<=(eAt t.ents i).tgt/\(eAt t.ents i).tgt<=192
 z3:t.ph=3->t.nx=0
def Tb.kd (t:Tb):Nat:=if t.ph=4 then 3 else t.ph
section
variable {t:Tb} {m:Mk}
theorem Tb.xH (z:1<=t.ph) (h4:t.ph<=4) (d:t.ph≠3) (h:nxt t.ents t.kd t.nx<t.ents.length\/t.ph=4):t.settle m=t.at t.ph (nxt t.ents t.kd t.nx):=by
 unfold Tb.settle Tb.kd at*;have:t.ph=1\/t.ph=2\/t.ph=4:=by omega
 rcases this with e|e|e
 ·rw [e] at h ⊢;have y:nxt t.ents 1 t.nx<t.ents.length:=h.resolve_right (by omega);show t.set1 m t.nx=_;unfold Tb.set1;rw [if_pos y];rfl
 ·rw [e] at h ⊢;have y:nxt t.ents 2 t.nx<t.ents.length:=h.resolve_right (by omega);show t.set2 m t.nx=_;unfold Tb.set2;rw [if_pos y];rfl
 rw [e];rfl
theorem Tb.aLO (e:t.ph=1) (h:¬ nxt t.ents t.kd t.nx<t.ents.length):t.settle m=((t.find m).at 2 0).settle m:=by
 unfold Tb.kd at h;rw [e] at h;replace h:¬ nxt t.ents 1 t.nx<t.ents.length:=h;show _=(t.find m).set2 m 0;unfold Tb.settle;rw [if_pos e];unfold Tb.set1;rw [if_neg h]
theorem Tb.aLN (e:t.ph=2) (h:¬ nxt t.ents t.kd t.nx<t.ents.length):t.settle m=(t.at 3 0).settle m:=by
 unfold Tb.kd at h;rw [e] at h;replace h:¬ nxt t.ents 2 t.nx<t.ents.length:=h;show _=t.pU m;unfold Tb.settle;rw [if_neg (by omega),if_pos e];unfold Tb.set2;rw [if_neg h]
theorem Tb.aLM (e:t.ph=3) (h:m.list=[]):t.settle m=(t.at 4 0).settle m:=by
 unfold Tb.settle;rw [if_neg (by omega),if_neg (by omega),if_pos e];unfold Tb.pU;rw [if_pos h];rfl
theorem Tb.aIW (e:t.ph=3) (y:t.nx=0) (h:m.list≠[]):t.settle m=t:=by
 unfold Tb.settle;rw [if_neg (by omega),if_neg (by omega),if_pos e];unfold Tb.pU;rw [if_neg h];unfold Tb.at
 rw [<-e,<-y]
end
section
variable {l:List Asn} {i j k hb p b:Nat} {m:Mk} {t:Tb} {kk:Nat} {w0 w:World}
theorem PL.fin (z:Three l i j k) (y:Fam w0 w (PL l i j k hb p b m t kk)) (h:t.ph=2->kk=t.ents.length):Fam w0 w (PL l i j k hb p b m t t.ents.length):=by
 by_cases e:t.ph=2
 ·rw [<-h e];exact y
 exact PL.aSH z y e t.ents.length t.fd
theorem aEh (w:World) (T3:Three l i j k) (hf:Fam w0 w (PL l i j k hb p b m t kk)) (f6:t.ph=2->kk=t.ents.length) (ht:t.Run):Calls Tryz.prog 75 #[.pointer (some ⟨b,0,none⟩),.pointer (some ⟨p,0,none⟩)] w (fun e w'=>e=.returned (.tuple #[])/\Fam w0 w' (PL l i j k hb p b m (t.settle m) t.ents.length)):=by
 refine aF fun R hR=>?_;have HF:=aA hf;have d9:=aA f6;have HT:=aA ht;clear hf f6 ht;go_in;go_wp2;go_loopw [] (fun wr=>∃ (u:Tb) (q:Nat),Fam w0 wr (PL l i j k hb p b m u q)/\(u.ph=2->q=u.ents.length)/\u.Run/\u.settle m=t.settle m/\u.ents=t.ents) (fun wr=>4 - aGn wr b 3)
 case atStart=>exact ⟨t,kk,HF.out,d9.out,HT.out,rfl,rfl⟩
 case round=>
  clear HF d9 HT;obtain ⟨u,q,hf,hq,hu,hs,he⟩:=hrel;have HF:=aA hf;have HQ:=aA hq;have HU:=aA hu;have HS:=aA hs;have HE:=aA he;obtain ⟨ev,qv,mo,x4⟩:=PL.tb T3 hf;obtain ⟨z0,z1,z2,z3,z4,z5,zf⟩:=x4.cells;have x6:=lW z3;rw [x6]
  by_cases h3:u.ph=3
  ·as_aux_lemma=>
   have cd:=yO wr T3.t2 hf;have f3:=zf 3;have f4:=zf 4;rw [h3] at z3;have HZ:=aA (hu.z3 h3)
   by_cases hl:m.list=[]
   ·have hd:decide (m.list=[])=true:=decide_eq_true hl;rw [hd] at cd;have HN:Hid (u.settle m=(u.at 4 0).settle m):=Tb.aLM h3 hl;have HP:=PL.aCt T3 (PL.sZ T3 hf 4) 0;have e1:=lW (b:=b) (i:=3) (w:=(wr.setCell ⟨b,3,none⟩ (.int .i64 4)).setCell ⟨b,4,none⟩ (.int .i64 0)) (k:=.i64) (n:=4) (by
     obtain ⟨_,_,_,h7⟩:=PL.tb T3 HP;exact h7.cells.2.2.2.1)
    have b5:=aA HP;have i3:=aA e1;clear hf hq hu hs he x4 hd hl HP e1;go_wp2_with fail;refine cd.mono ?_;rintro e _ ⟨rfl,rfl⟩;clear cd;go_wp2;exact ⟨⟨u.at 4 0,0,b5.out,fun h=>by (cases h),⟨HU.out.le,by show 1<=4;omega,by show 4<=4;omega,Nat.zero_le _,HU.out.tg,fun h=>by (cases h)⟩,by rw [<-HN.out];exact HS.out,HE.out⟩,by rw [i3.out,h3];omega⟩
   have hd:decide (m.list=[])=false:=decide_eq_false hl;rw [hd] at cd;have HN:Hid (u.settle m=u):=Tb.aIW h3 HZ.out hl;have b5:=aA (PL.aSH T3 hf (by omega) t.ents.length u.fd);clear hf hq hu hs he x4 hd hl;go_wp2_with fail;refine cd.mono ?_;rintro e _ ⟨rfl,rfl⟩;clear cd;go_wp2;refine bodyPost_ret (results_none rfl _ _ _) rfl ?_;refine hR.out _ _ ⟨rfl,?_⟩;rw [<-HS.out,HN.out];exact b5.out
  have a0:Hid (∀ wx,Calls Tryz.prog 160 #[.int .i64 (u.ph:Int)] wx (aO wx (.int .i64 (u.kd:Int)))):=fun wx=>aHp wx u.ph;have i8:((u.ph:Int) == 3)=false:=by rw [beq_eq_false_iff_ne];omega
  have j0:1<=u.ph/\u.ph<=4:=⟨hu.p1,hu.p4⟩;obtain ⟨ph,b8⟩:∃ z,z=u.ph:=⟨_,rfl⟩;have x2:=aA b8;rw [<-b8] at i8 z3 h3 j0 a0;obtain ⟨kd,c3⟩:∃ z,z=u.kd:=⟨_,rfl⟩;have y2:=aA c3;rw [<-c3] at a0;have a1:Hid (u.nx<=nxt u.ents kd u.nx):=by
   show _<=_
   by_cases e:nxt u.ents kd u.nx<u.ents.length
   ·exact (nM e).1
   have:=hu.nl;have:=kZ (l:=u.ents) (k:=kd) (n:=u.nx);omega
  clear hf hq hu hs he x4 b8 c3 z0 z1 z2 z4 z5;go_wp2_with fail;obtain ⟨wo,rfl⟩:∃ wo:World,wo=wr:=⟨_,rfl⟩;go_loopw [] (fun wr=>∃ n:Nat,u.nx<=n/\n<=nxt u.ents kd u.nx/\Fam w0 wr (PL l i j k hb p b m (u.at u.ph n) q)) (fun wr=>20 - aGn wr b 4)
  case atStart=>exact ⟨u.nx,Nat.le_refl _,a1.out,HF.out⟩
  case round=>
   clear HF z3 zf;obtain ⟨n,a7,c7,hf⟩:=hrel;have HF:=aA hf;obtain ⟨ev,qv,mo,x4⟩:=PL.tb T3 hf;obtain ⟨z0,z1,z2,z3,z4,z5,zf⟩:=x4.cells;have a5:=lW z4;have a4:=lW z3;replace a5:aGn wr b 4=n:=a5;replace a4:aGn wr b 3=u.ph:=a4;rw [a5];replace z4:wr.cell? ⟨b,4,none⟩=some (.int .i64 (n:Int)):=z4;replace z3:wr.cell? ⟨b,3,none⟩=some (.int .i64 (u.ph:Int)):=z3;rw [<-x2.out] at z3;have f3:=zf 3;have f4:=zf 4;have f5:=zf 5;have x7:iO wr 123 0 ev u.ents:=x4.ents;obtain ⟨va,vc,x8⟩:=x7.len;have g7:=aA x7;have j8:=aA HU.out.le;have j9:=aA a4;subst x8;clear hf x4 z0 z2 z5 zf a5 a4 x7;have j6:(0:Int)<=n:=by omega
   by_cases x3:n<u.ents.length
   ·obtain ⟨g,cap,hv,_,_,c0,_,_,_⟩:=g7.out.at x3;simp only [Value.slice.injEq,true_and] at hv;obtain ⟨rfl,rfl⟩:=hv;have h6:(n:Int)<(u.ents.length:Int):=by omega
    by_cases x5:(eAt u.ents n).kind=(kd:Int)
    ·as_aux_lemma=>
     have f1:((eAt u.ents n).kind == (kd:Int))=true:=by rw [x5];simp
     have d5:Hid (n=nxt u.ents kd u.nx):=by
      show _=_
      by_cases e:n=nxt u.ents kd u.nx
      ·exact e
      exact absurd x5 (lV a7 (by omega))
     have b6:Hid (u.settle m=u.at u.ph n):=by
      show _=_;have:=x2.out;rw [d5.out,y2.out];exact Tb.xH (by omega) (by omega) (by omega) (.inl (by rw [<-y2.out,<-d5.out];exact x3))
     have b2:Hid (u.ph=2->q=u.ents.length):=HQ.out;rw [x5] at c0;obtain ⟨h8,d⟩:∃ z,z=u.ents.length:=⟨_,rfl⟩;rw [<-d] at z1 h6;have h9:=aA d;clear x5 f1 a7 c7 x3 a1 d;go_wp2_with fail;go_quiet ((go_at_call 160;with_reducible exact aT (a0.out _)))
     go_wp2_with fail;go_quiet (fail);go_wp2;refine bodyPost_ret (results_none rfl _ _ _) rfl ?_;refine hR.out _ _ ⟨rfl,?_⟩;rw [<-HS.out,b6.out,<-HE.out];exact PL.fin T3 ((HF.out.drewN _).drewN _) b2.out
    ·as_aux_lemma=>
     have f1:((eAt u.ents n).kind == (kd:Int))=false:=by rw [beq_eq_false_iff_ne];exact x5
     have i2:Hid (n+1<=nxt u.ents kd u.nx):=by
      show _<=_
      by_cases e:n=nxt u.ents kd u.nx
      ·have h7:=(nM (l:=u.ents) (k:=kd) (n:=u.nx) (by rw [<-e];exact x3)).2;rw [<-e] at h7;exact absurd h7 x5
      omega
     have i1:Hid (u.nx<=n+1):=by show _<=_;omega
     have z9:n<20:=by have:=HU.out.le;omega
     obtain ⟨h8,d⟩:∃ z,z=u.ents.length:=⟨_,rfl⟩;rw [<-d] at z1 h6;have h9:=aA d;generalize (eAt u.ents n).kind=kn at*;clear x5 a7 c7 x3 a1 d;go_wp2_with fail;go_quiet ((go_at_call 160;with_reducible exact aT (a0.out _)))
     go_wp2_with fail;have b1:=fun y=>PL.aCt T3 (HF.out.drewN y) (n+1);have y0:=aA b1;have y6:=fun y=>lW (b:=b) (i:=4) (w:=(wr.drewN y).setCell ⟨b,4,none⟩ (.int .i64 ((n+1:Nat):Int))) (k:=.i64) (n:=n+1) (by
      obtain ⟨_,_,_,h7⟩:=PL.tb T3 (y0.out y);exact h7.cells.2.2.2.2.1)
     have j3:((n:Int)+1)=((n+1:Nat):Int):=by omega
     rw [j3];exact ⟨⟨n+1,i1.out,i2.out,y0.out _⟩,by rw [y6];omega⟩
   obtain rfl:n=u.ents.length:=by have:=kZ (l:=u.ents) (k:=kd) (n:=u.nx);omega
   have b4:Hid (u.ents.length=nxt u.ents kd u.nx):=by show _=_;have:=kZ (l:=u.ents) (k:=kd) (n:=u.nx);omega
   have h6:¬ ((u.ents.length:Int)<(u.ents.length:Int)):=by omega
   have g6:decide ((u.ents.length:Int)<(u.ents.length:Int))=false:=decide_eq_false h6;obtain ⟨h8,d⟩:∃ z,z=u.ents.length:=⟨_,rfl⟩;rw [<-d] at z1 h6 g6 z4;have h9:=aA d;clear a7 c7 x3 a1 d
   by_cases h4:ph=4
   ·as_aux_lemma=>
    have b6:Hid (u.settle m=u.at u.ph u.ents.length):=by
     show _=_;have:=x2.out;rw [b4.out,y2.out];exact Tb.xH (by omega) (by omega) (by omega) (.inr (by omega))
    have b2:Hid (u.ph=2->q=u.ents.length):=HQ.out;subst h4;go_wp2_with fail;go_quiet (fail);go_wp2_with fail;go_quiet (fail);go_wp2;refine bodyPost_ret (results_none rfl _ _ _) rfl ?_;refine hR.out _ _ ⟨rfl,?_⟩;rw [<-HS.out,b6.out,<-HE.out];exact PL.fin T3 ((HF.out.drewN _).drewN _) b2.out
   have k3:((ph:Int) == 4)=false:=by rw [beq_eq_false_iff_ne];omega
   by_cases h1:ph=1
   ·as_aux_lemma=>
    subst h1;have HN:Hid (u.settle m=((u.find m).at 2 0).settle m):=Tb.aLO x2.out.symm (by rw [<-y2.out,<-b4.out];omega);go_wp2_with fail;go_quiet (fail);go_wp2_with fail;go_quiet (fail);have x9:=fun y z=>aA ((HF.out.drewN y).drewN z);clear z1 z3 z4 f3 f4 f5;generalize g1:(wr.drewN _).drewN _=w1;replace x9:Hid (Fam w0 w1 (PL l i j k hb p b m (u.at u.ph u.ents.length) q)):=by rw [<-g1];exact (x9 _ _).out
    clear g1;have c9:Fam w0 ((w1.setCell ⟨b,3,none⟩ (.int .i64 2)).setCell ⟨b,4,none⟩ (.int .i64 0)) (PL l i j k hb p b m (u.at 2 0) 0):=PL.aCt T3 (PL.sZ T3 x9.out 2) 0;have a8:Fam w0 ((((w1.setCell ⟨b,3,none⟩ (.int .i64 2)).setCell ⟨b,4,none⟩ (.int .i64 0)).alloc (.map #[] 0)).setCell ⟨b,5,none⟩ (.map (some ((w1.setCell ⟨b,3,none⟩ (.int .i64 2)).setCell ⟨b,4,none⟩ (.int .i64 0)).heap.size))) (PL l i j k hb p b m (u.at 2 0) 0):=PL.aPN T3 c9;obtain ⟨k2,k6,k4,d0⟩:=PL.tb T3 x9.out;obtain ⟨_,z1,_,z3,z4,z5,zf⟩:=d0.cells;obtain ⟨i9,k7,k5,d1⟩:=PL.tb T3 c9;obtain ⟨c4,d3,j7,h0⟩:=PL.tb T3 a8;have x8:c4=i9/\j7=some ((w1.setCell ⟨b,3,none⟩ (.int .i64 2)).setCell ⟨b,4,none⟩ (.int .i64 0)).heap.size:=by
     obtain ⟨U,f9⟩:=d1.row;have h1:=((f9.alloc (.map #[] 0)).set 5 (.map (some ((w1.setCell ⟨b,3,none⟩ (.int .i64 2)).setCell ⟨b,4,none⟩ (.int .i64 0)).heap.size))).cell 1 rfl;have h5:=((f9.alloc (.map #[] 0)).set 5 (.map (some ((w1.setCell ⟨b,3,none⟩ (.int .i64 2)).setCell ⟨b,4,none⟩ (.int .i64 0)).heap.size))).cell 5 rfl;have e8:=h1.symm.trans h0.cells.2.1;have e9:=h5.symm.trans h0.cells.2.2.2.2.2.1;simp only [Option.some.injEq,Value.map.injEq] at e8 e9;exact ⟨e8.symm,e9.symm⟩
    obtain ⟨rfl,rfl⟩:=x8;have a9:((w1.setCell ⟨b,3,none⟩ (.int .i64 2)).setCell ⟨b,4,none⟩ (.int .i64 0)).heap.size=w1.heap.size:=by simp
    have j2:b<w1.heap.size:=by obtain ⟨U,hr⟩:=d0.row;exact hr.lt
    rw [a9] at a8 h0;have d2:=d1.aN ((Only.refl [] _).alloc (.map #[] 0));obtain ⟨_,y1,_,y3,y4,y5,yf⟩:=d2.cells;have d6:Hid (iW (((w1.setCell ⟨b,3,none⟩ (.int .i64 2)).setCell ⟨b,4,none⟩ (.int .i64 0)).alloc (.map #[] 0)) w1.heap.size 0 (fun _=>false)):=by
     have:=iW.made ((w1.setCell ⟨b,3,none⟩ (.int .i64 2)).setCell ⟨b,4,none⟩ (.int .i64 0)) (fun _=>false);rw [a9] at this;exact this
    have e7:Hid (iW ((((w1.setCell ⟨b,3,none⟩ (.int .i64 2)).setCell ⟨b,4,none⟩ (.int .i64 0)).alloc (.map #[] 0)).setCell ⟨b,5,none⟩ (.map (some w1.heap.size))) w1.heap.size 0 (fun _=>false)):=
     d6.out.only (((Only.refl [b] _).set (.inl (by simp)) _).toP (S:=fun x=>x=b) (fun x hx=>.inl (by simpa using hx))) (fun x=>by omega)
    have a2:=aA (PL.fd0 T3 a8 (u.find m).fd);replace a2:Hid (Fam w0 ((((w1.setCell ⟨b,3,none⟩ (.int .i64 2)).setCell ⟨b,4,none⟩ (.int .i64 0)).alloc (.map #[] 0)).setCell ⟨b,5,none⟩ (.map (some w1.heap.size))) (PL l i j k hb p b m ((u.find m).at 2 0) 0)):=a2;have e2:Hid (mG ((((w1.setCell ⟨b,3,none⟩ (.int .i64 2)).setCell ⟨b,4,none⟩ (.int .i64 0)).alloc (.map #[] 0)).setCell ⟨b,5,none⟩ (.map (some w1.heap.size))) b c4 d3 (some w1.heap.size) ((u.find m).at 2 0) 0):=
     ⟨h0.row,h0.ents,h0.q,fun mb e=>by
      obtain ⟨n,f,h1,h2,_⟩:=h0.fnd mb e;exact ⟨n,f,h1,h2,fun _=>⟨Nat.zero_le _,fun i hi=>by omega⟩⟩,fun _ x=>absurd x (by omega),h0.n1,h0.n2,h0.n3⟩
    have j5:(Instr.makeMap 114 none).run Tryz.prog ((w1.setCell ⟨b,3,none⟩ (.int .i64 2)).setCell ⟨b,4,none⟩ (.int .i64 0))=.ok (.map (some w1.heap.size)) (((w1.setCell ⟨b,3,none⟩ (.int .i64 2)).setCell ⟨b,4,none⟩ (.int .i64 0)).alloc (.map #[] 0)):=by
     rw [<-a9];kernel_rfl
    have x7:iO _ 123 0 c4 u.ents:=d2.ents;obtain ⟨g3,d4,x8⟩:=x7.len;rw [<-h9.out] at x8;subst x8;have f3:=zf 3;have f4:=zf 4;have g5:=yf 5;replace z3:w1.cell? ⟨b,3,none⟩=some (.int .i64 1):=by rw [z3,<-x2.out];rfl
    clear j2 c9 a8 d0 d1 d2 h0 x7 a9 zf yf y3 y4 z1 HF x9 d6;go_wp2_with fail;generalize ((((w1.setCell ⟨b,3,none⟩ (.int .i64 2)).setCell ⟨b,4,none⟩ (.int .i64 0)).alloc (.map #[] 0)).setCell ⟨b,5,none⟩ (.map (some w1.heap.size)))=w5 at*;generalize w1.heap.size=mb at*;clear y1 y5 g5 j5 f3 f4 z3 z4 z5;obtain ⟨g4,rfl⟩:∃ g4:World,g4=wr:=⟨_,rfl⟩;have i6:Hid (∀ i,i<u.ents.length->wfI (eAt u.ents i).tgt):=fun i hi=>dL (by have:=HU.out.tg i hi;omega);go_loopw [95] (fun iv wr=>∃ (k9:Nat) (f:Nat->Bool),k9<=h8/\iv=.int .i64 k9/\Fam w0 wr (PL l i j k hb p b m ((u.find m).at 2 0) k9)/\mG wr b (.slice g3 h8 d4) d3 (some mb) ((u.find m).at 2 0) k9/\iW wr mb k9 f/\∀ i,i<k9->f i=(u.find m).fd i) (fun iv _=>h8 - (intOf iv).toNat)
    case atStart=>exact ⟨0,_,by omega,rfl,a2.out,e2.out,e7.out,fun i hi=>by omega⟩
    case round=>as_aux_lemma=>
     clear a2 e2 e7;obtain ⟨n,f,hn,rfl,hf,ht,hm,c5⟩:=hrel;have HF:=aA hf;have HT:=aA ht;have HM:=aA hm;have d7:=aA c5
     by_cases x3:n<h8
     ·have h6:(n:Int)<(h8:Int):=by omega
      have j6:(0:Int)<=n:=by omega
      have f0:iO wr 123 0 (.slice g3 h8 d4) u.ents:=ht.ents;have c6:n<u.ents.length:=by rw [<-h9.out];exact x3
      obtain ⟨g,cap,hv,j4,_,c0,c1,c2,_⟩:=f0.at c6;rw [<-h9.out] at hv;simp only [Value.slice.injEq,true_and] at hv;obtain ⟨rfl,rfl⟩:=hv;have i4:Hid (∀ j v,[Value.int .i64 (eAt u.ents n).kind,.int .i64 (eAt u.ents n).tgt,.int .i64 (eAt u.ents n).tag][j]?=some v->wr.cell? ⟨g,n*3+j,none⟩=some v):=fun j v hv=>by
       match j,hv with
       | 0,hv=>cases hv;exact c0
       | 1,hv=>cases hv;exact c1
       | 2,hv=>cases hv;exact c2
       | j+3,hv=>simp at hv
      have i7:=aA (i6.out n c6);have e6:Hid ((u.find m).fd n=(decide ((eAt u.ents n).kind=2) && m.isW (eAt u.ents n).tgt)):=rfl;have z9:Hid (n<20):=by show _<_;have:=HU.out.le;omega
      generalize eAt u.ents n=en at*;obtain ⟨ek,et,eg⟩:=en;have HX:=Row.new wr 123 [.int .i64 ek,.int .i64 et,.int .i64 eg];have d8:=aA (hf.alloc (.cells #[.int .i64 ek,.int .i64 et,.int .i64 eg] 123));have c8:Only [] wr (wr.alloc (.cells #[.int .i64 ek,.int .i64 et,.int .i64 eg] 123)):=(Only.refl [] wr).alloc _;have e3:=aA (ht.aN c8);have i0:=aA (hm.only (c8.xA (S:=fun _=>False)) (fun x=>x));have e0:Hid (mb<wr.heap.size):=hm.lt;have x0:=HX.cell 0 rfl;have x1:=HX.cell 1 rfl;have e5:=e3.out.cells.2.2.2.2.2.1;clear hf ht hm c5 f0 c6 j4 c0 c1 c2 HX c8 HF HT HM;go_wp2_with (refine eU rfl 123 _ rfl g (n*3) rfl [.int .i64 ek,.int .i64 et,.int .i64 eg] _ Tryz.underlying123 rfl aIV i4.out ?_);have g0:mb<wr.heap.size:=e0.out;generalize wr.alloc (.cells #[.int .i64 ek,.int .i64 et,.int .i64 eg] 123)=w6 at*;generalize wr.heap.size=rb at*;have i5:=aA g0;clear g0 e0;have a3:Hid (∀ wy,Only [] w6 wy->∃ w',(Instr.mapUpdate 114 (.map (some mb)) (.int .i64 (n:Int)) (.bool ((u.find m).fd n))).run Tryz.prog wy=.ok () w'/\(w'.cell? ⟨b,5,none⟩=some (.map (some mb))/\w'.cell? ⟨rb,0,none⟩=some (.int .i64 ek)/\w'.cell? ⟨rb,1,none⟩=some (.int .i64 et))/\∃ f',iW w' mb (n+1) f'/\(∀ i,i<n+1->f' i=(u.find m).fd i)/\Fam w0 w' (PL l i j k hb p b m ((u.find m).at 2 0) (n+1))/\mG w' b (.slice (some ⟨g,0,none⟩) h8 d4) d3 (some mb) ((u.find m).at 2 0) (n+1)):=fun wy ho=>by
       obtain ⟨w',h1,h2,h3,h4,h5⟩:=PL.aPO T3 (d8.out.aN ho) (e3.out.aN ho) (i0.out.only (ho.xA (S:=fun _=>False)) (fun x=>x)) d7.out z9.out;have f8:rb∉[mb]:=by have:=i5.out;simp;omega
       refine ⟨w',h1,⟨h5.cells.2.2.2.2.2.1,h3.cell (ho.cell x0 (by simp)) f8,h3.cell (ho.cell x1 (by simp)) f8⟩,_,h2,fun i hi=>?_,h4,h5⟩
       by_cases e:i=n
       ·rw [e,if_pos rfl];rfl
       rw [if_neg e];exact d7.out i (by omega)
      by_cases a6:ek=2
      ·as_aux_lemma=>
       subst a6;have y9:(u.find m).fd n=m.isW et:=e6.out;rw [y9] at a3;have g9:Hid (Calls Tryz.prog 151 #[.pointer (some ⟨p,0,none⟩),.int .i64 et] w6.drew (Same w6.drew (.bool (m.isW et)))):=qA w6.drew T3.t2 d8.out.drew et i7.out;clear y9;generalize m.isW et=wt at*;go_region_held3 (fun w'=>w'.cell? ⟨b,5,none⟩=some (.map (some mb))/\w'.cell? ⟨rb,0,none⟩=some (.int .i64 2)/\w'.cell? ⟨rb,1,none⟩=some (.int .i64 et))
        (first|(exact ⟨e5,x0,x1⟩)|(exact f2))
        (first|(go_at_call 151;refine g9.out.mono ?_;rintro e _ ⟨rfl,n9,rfl⟩;obtain ⟨w7,z8,f2,g2⟩:=a3.out _ ((Only.refl [] w6).drewN (1+n9));have e4:=aA g2;clear g2))
       obtain ⟨f7,z6,y7,y8,z7⟩:=e4.out;have b0:=aA y8;have b7:=aA z7;have b3:=aA z6;have b9:=aA y7;clear z8 f2 e4 z6 y7 y8 z7 x0 x1 e5;have j1:=z9.out;go_wp2;exact ⟨⟨n+1,f7,by omega,by go_num,b0.out,b7.out,b3.out,b9.out⟩,by simp [intOf];omega⟩
      ·as_aux_lemma=>
       have k1:(ek == 2)=false:=by rw [beq_eq_false_iff_ne];exact a6
       have y9:(u.find m).fd n=false:=by rw [e6.out];simp [a6]
       rw [y9] at a3;obtain ⟨w7,z8,_,f7,z6,y7,y8,z7⟩:=a3.out _ (Only.refl [] w6).drew;have b0:=aA y8;have b7:=aA z7;have b3:=aA z6;have b9:=aA y7;clear z6 y7 y8 z7 y9 a6;go_still_tail 14,(by kernel_rfl);change wpList _ _ _ _ _ w6.drew;have j1:=z9.out;go_wp2;exact ⟨⟨n+1,f7,by omega,by go_num,b0.out,b7.out,b3.out,b9.out⟩,by simp [intOf];omega⟩
     ·as_aux_lemma=>
      obtain rfl:n=h8:=by omega
      have h6:¬ (n:Int)<(n:Int):=by omega
      have g8:Hid (((u.find m).at 2 0).Run):=⟨HU.out.le,by show 1<=2;omega,by show 2<=4;omega,Nat.zero_le _,HU.out.tg,fun e=>by simp [Tb.at] at e⟩;have x6:=lW ht.cells.2.2.2.1;have y6:=aA x6;clear hf ht hm c5 x6;go_wp2;exact ⟨⟨(u.find m).at 2 0,n,HF.out,fun _=>h9.out,g8.out,HN.out.symm.trans HS.out,HE.out⟩,by rw [y6.out];show 4 - 2<4 - u.ph;have:=x2.out;omega⟩
   ·as_aux_lemma=>
    obtain rfl:ph=2:=by omega
    have HN:Hid (u.settle m=(u.at 3 0).settle m):=Tb.aLN x2.out.symm (by rw [<-y2.out,<-b4.out];omega);go_wp2_with fail;go_quiet (fail);go_wp2_with fail;go_quiet (fail);go_wp2_with fail;have b1:=fun y=>PL.aCt T3 (PL.sZ T3 (HF.out.drewN y) 3) 0;have y0:=aA b1;have y6:=fun y=>lW (b:=b) (i:=3) (w:=((wr.drewN y).setCell ⟨b,3,none⟩ (.int .i64 3)).setCell ⟨b,4,none⟩ (.int .i64 0)) (k:=.i64) (n:=3) (by
     obtain ⟨_,_,_,h7⟩:=PL.tb T3 (y0.out y);exact h7.cells.2.2.2.1)
    exact ⟨⟨u.at 3 0,0,y0.out _,fun h=>by (cases h),⟨HU.out.le,by show 1<=3;omega,by show 3<=4;omega,Nat.zero_le _,HU.out.tg,fun h=>rfl⟩,by rw [<-HN.out];exact HS.out,HE.out⟩,by rw [y6,<-x2.out];omega⟩
end
end Go.Proofs.YthflghdaejbdkaaGreat
