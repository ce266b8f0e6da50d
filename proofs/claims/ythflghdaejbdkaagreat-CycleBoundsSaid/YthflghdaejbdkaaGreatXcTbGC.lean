/- Lemmas of this claim. -/
import Derived.Test.YthflghdaejbdkaaGreatXcTbG
import Derived.Test.YthflghdaejbdkaaGreatXcTbGood
import Derived.Test.YthflghdaejbdkaaGreatXcRObjQ
namespace Go.Proofs.YthflghdaejbdkaaGreat
open _root_.Go.Proofs.Tryz (prog)
open Go.RowKit Go.Maps
set_option maxHeartbeats 6400000
set_option maxRecDepth 100000
set_option linter.unusedVariables false
theorem aJh (w:World):Calls prog 90 #[] w (fun e w'=>e=.returned (.pointer (some ⟨w.heap.size,0,none⟩))/\w'=w.alloc (.cells #[.slice none 0 0,.slice none 0 0,.int .i64 0,.int .i64 0,.slice none 0 0] 52)):=by
 refine aF fun R y=>?_;go_in;go_wp2;exact y.out _ _ ⟨rfl,rfl⟩
theorem aNY (w:World):aGo w (w.alloc (.cells #[.slice none 0 0,.slice none 0 0,.int .i64 0,.int .i64 0,.slice none 0 0] 52)) (TrA w.heap.size Tb.new):=
 ⟨(Only.refl [] w).alloc _,fun k=>k=w.heap.size\/(Value.slice none 0 0).ownBlock=some k\/(Value.slice none 0 0).ownBlock=some k\/(Value.slice none 0 0).ownBlock=some k,⟨.slice none 0 0,.slice none 0 0,.slice none 0 0,0,[],⟨⟨_,Row.new w _ _⟩,iO.nil _ _ _,aK.nil _ _,Bls.nil _ _,aAv.self _,⟨Nat.zero_le _,fun h=>by simp [Tb.new] at h⟩,fun g hg=>by (cases hg),fun g hg=>by (cases hg),fun e=>by (cases e)⟩,fun k=>Iff.rfl⟩,fun k y=>by
  rcases y with y|y|y|y
  ·omega
  ·cases y
  ·cases y
  cases y⟩
theorem aNH:(prog.info? 48).map (fun i=>(i.zero,i.size,i.bytes))=some (some (.agg #[.int .i64 0,.int .i64 0,.int .i64 0]),3,24):=by kernel_rfl
theorem aIl {w:World} {ops:Array Oper} {z:List Oper} {o:Oper} {a:Act} {Q:Exit->Act->World->Prop} (h6:o.guard=none) (s x:Operand)
  (ho:o.op=.call { callee:=.builtin .append,args:=#[s,x],argTypes:=#[49,49] })
  (v:Value) (l:List En) (hs:a.eval s=v) (h0:iO w 48 0 v l)
  (bk U:Nat) (y:En) (hx:a.eval x=.slice (some ⟨bk,0,none⟩) 1 1) (d:Row w bk U (enC y)) (h4:l.length<=1000000)
  (h:∀ e w',iO w' 48 0 e (l ++ [y])->Only v.ownBlock.toList w w'->(e.ownBlock=v.ownBlock\/e.ownBlock=some w.heap.size)->wpList prog ops Q z (a.put o.dst e) w'):wpList prog ops Q (o :: z) a w:=by
 obtain ⟨i0,hi,h7,h8,h9⟩:=info_parts aNH;refine bU h6 s x 49 ho 0 48 i0 _ 3 24 Tryz.underlying49 hi h7 h8 h9 rfl (by decide) v l.length _ hs h0 ⟨bk,0,none⟩ 1 1 (enC y) hx (by simp [enC])
  (fun j u hu=>?_) (fun u hu=>?_) (by simp only [maxLen];omega) (by omega) (Nat.zero_le _) (fun e w' h1 h2 h3 h5=>h e w' ?_ ?_ h5)
 ·rw [dI];exact d.cell _ (by rw [Nat.zero_add];exact hu)
 ·simp only [enC,List.mem_cons,List.not_mem_nil,or_false] at hu;rcases hu with rfl|rfl|rfl<;>rfl
 ·unfold iO;rw [List.length_append,zQ];have:dH [y]=enC y:=by simp [dH]
  rw [this];exact h1
 exact (Only.refl _ _).grown h2 (fun k hk=>.inl (by rw [hk];simp))
section
variable {l:List Asn} {i j k q r b:Nat} {m:Mk} {t:Tb} {w0 w w':World} {ev qv wv:Value} {nx:Nat} {wl:List Bool}
theorem QL.aNy (h:Three l i j k) (hf:Fam w0 w (QL l i j k q r b m t)) (d:kU w b ev qv wv nx wl t) {w2:World} {v':Value} {q':List Int} (he:aK w2 w.heap.size v' q') (ho:Only [] w w2) :
  w2.cell? ⟨b,1,none⟩=some qv/\w2.frozen? ⟨b,1,none⟩=false/\kU (w2.setCell ⟨b,1,none⟩ v') b ev v' wv nx wl ⟨t.ents,q',t.ph,t.nx,t.fd⟩/\Fam w0 (w2.setCell ⟨b,1,none⟩ v') (QL l i j k q r b m ⟨t.ents,q',t.ph,t.nx,t.fd⟩):=by
 have h4:b<w.heap.size:=by obtain ⟨U,hr⟩:=d.row;exact hr.lt
 have h0:=d.aN ho;have hs:Only [b] w2 (w2.setCell ⟨b,1,none⟩ v'):=(Only.refl _ w2).set (.inl (by simp)) _;obtain ⟨h1,h2,h3⟩:=h0.rest hs;have y:∀ g,v'.ownBlock=some g->w.heap.size<=g:=fun g z=>(he.own g z).1;have hT:kU (w2.setCell ⟨b,1,none⟩ v') b ev v' wv nx wl ⟨t.ents,q',t.ph,t.nx,t.fd⟩:=
  ⟨h0.row.imp fun U x=>x.set 1 _,h1,(he.base (Nat.zero_le _)).only hs (fun g z=>by have:=y g z;simp;omega),h3,d.now,d.two,fun g z=>⟨(d.n1 g z).1,(d.n1 g z).2.1,fun e=>by have:=y g e;have:=(d.ents.own g z).2;omega⟩,fun g z=>⟨by have:=y g z;omega,fun e=>by have:=y g z;have:=(d.wh.own g e).2;omega⟩,d.n3⟩
 refine ⟨h0.cells.2.1,h0.cells.2.2.2.2.2 1,hT,QL.trT h hf d ev v' wv nx wl _ hT (fun x hx=>?_) ((ho.mono (G:=[b]) (by simp)).trans hs (by simp) |>.toP (fun x hx=>.inl (.inl (by simpa using hx))))⟩;rcases hx with hx|hx|hx|hx
 ·exact .inl (.inl hx)
 ·exact .inl (.inr (.inl hx))
 ·exact .inr (y x hx)
 exact .inl (.inr (.inr (.inr hx)))
theorem aPx (w:World) (T3:Three l i j k) (hf:Fam w0 w (QL l i j k q r b m t)) (hl:t.q.length<=1000000):Calls prog 147 #[.pointer (some ⟨b,0,none⟩)] w (fun e w'=>e=.returned (.tuple #[.int .i64 t.take.1,.int .i64 t.take.2.1])/\Fam w0 w' (QL l i j k q r b m t.take.2.2)):=by
 refine aF fun R hR=>?_;obtain ⟨ev,qv,wv,nx,wl,ht⟩:=QL.tr T3 hf;have HT:=aA ht;have HF:=aA hf;unfold Tb.take at hR
 cases e:t.q with
 | nil=>
  obtain ⟨z0,z1,z2,z3,z4,zf⟩:=ht.cells;rw [e] at hR;have y:=ht.q;rw [e] at y;obtain ⟨a,c,rfl⟩:=y.len;clear ht y hf;replace z1:w.cell? ⟨b,1,none⟩=some (.slice a 0 c):=z1;go_in;go_wp2;exact hR.out _ _ ⟨rfl,HF.out⟩
 | cons x rs=>
  rw [e] at hR hl;have y:=ht.q;rw [e] at y;obtain ⟨z0,z1,z2,z3,z4,zf⟩:=ht.cells;rcases y.form with ⟨_,h0⟩|⟨g,cap,rfl,_,x5,h3,hc⟩
  ·cases h0
  have x3:w.cell? ⟨g,0,none⟩=some (.int .i64 x):=hc 0 (by simp);have h7:Hid (∀ k,k<rs.length->w.cell? ⟨g,1+k,none⟩=some (.int .i64 (gI rs k))):=fun k hk=>by
   have h4:=hc (k+1) (by simp;omega);rw [Nat.add_comm 1 k,h4];simp [gI]
  obtain ⟨n,hn⟩:∃ z,z=rs.length:=⟨_,rfl⟩;have HN:=aA hn;have h8:n<=1000000:=by rw [hn];simp at hl;omega
  replace h3:n+1<=cap:=by rw [hn];simpa using h3
  replace z1:w.cell? ⟨b,1,none⟩=some (.slice (some ⟨g,0,none⟩) (n+1) cap):=by rw [hn];exact z1
  have h5:(w.alloc (.cells #[] 3)).cell? ⟨b,1,none⟩=some (.slice (some ⟨g,0,none⟩) (n+1) cap):=by rw [World.cell?_alloc_past _ _ _ (World.block_lt_of_cell? w _ z1)];exact z1
  have h9:((n:Int)+1 == 0)=false:=by rw [beq_eq_false_iff_ne];omega
  have x1:(0:Int)<(n:Int)+1:=by omega
  clear ht y hf hn hl hc z0 z2 z3 z4 zf
  by_cases h2:cap=1
  ·subst h2;obtain rfl:n=0:=by omega
   have x2:rs=[]:=List.eq_nil_of_length_eq_zero HN.out.symm;subst x2;replace z1:w.cell? ⟨b,1,none⟩=some (.slice (some ⟨g,0,none⟩) 1 1):=z1;replace h5:(w.alloc (.cells #[] 3)).cell? ⟨b,1,none⟩=some (.slice (some ⟨g,0,none⟩) 1 1):=h5;clear h9 x1;go_in;go_wp2_with (at_builtin;refine gQ rfl _ _ rfl w ((Only.refl _ _).alloc _) _ rfl (aK.made _) _ 0 _ [] rfl rfl (.inr ⟨_,_,rfl,rfl⟩) (by omega) ?c1)
   case c1=>
    intro g2 h6 w1 y ho;obtain ⟨y1,yf,_,d⟩:=QL.aNy T3 HF.out HT.out y.out ho.out;have h1:=aA d;clear y ho d;go_wp2;exact hR.out _ _ ⟨rfl,h1.out⟩
  have x4:(cap=1)=False:=eq_false h2;have x6:(1:Int)<=((n+1:Nat):Int):=by omega
  have x7:((n+1:Nat):Int)<=cap:=by omega
  go_in;go_wp2_with (at_builtin;refine gQ rfl _ _ rfl w ((Only.refl _ _).alloc _) _ rfl (aK.made _) (some ⟨g,1,none⟩) n _ rs rfl HN.out.symm (.inl ⟨g,1,_,by rw [HN.out],h7.out⟩) h8 ?c1)
  case c1=>
   intro g2 h6 w1 y ho;obtain ⟨y1,yf,_,d⟩:=QL.aNy T3 HF.out HT.out y.out ho.out;have h1:=aA d;clear y ho d;go_wp2;exact hR.out _ _ ⟨rfl,h1.out⟩
theorem kW (w:World) (h:kU w b ev qv wv nx wl t) (h7:t.ents.length<=20) (kd n:Nat):Calls prog 152 #[.pointer (some ⟨b,0,none⟩),.int .i64 (kd:Int),.int .i64 (n:Int)] w (aO w (.tuple #[.int .i64 (if nxt t.ents kd n<t.ents.length then (nxt t.ents kd n:Int) else 0),.bool (decide (nxt t.ents kd n<t.ents.length))])):=by
 refine aF fun R hR=>?_;obtain ⟨z0,_⟩:=h.cells;have HE:=aA h.ents;obtain ⟨a,c,rfl⟩:=h.ents.len;clear h;go_in;go_wp2;go_loopw [8] (fun iv wr=>∃ x:Nat,n<=x/\iv=.int .i64 x/\nxt t.ents kd x=nxt t.ents kd n/\wr=w) (fun iv _=>t.ents.length - (intOf iv).toNat)
 case atStart=>exact ⟨n,Nat.le_refl _,rfl,rfl,rfl⟩
 case round=>
  obtain ⟨x,hx,rfl,h1,rfl⟩:=hrel;have d:=aA h1;clear h1
  by_cases y:x<t.ents.length
  ·obtain ⟨g,cap,hv,_,_,c0,_,_,_⟩:=HE.out.at y;simp only [Value.slice.injEq,true_and] at hv;obtain ⟨rfl,rfl⟩:=hv;have h3:(x:Int)<(t.ents.length:Int):=by omega
   have h8:(0:Int)<=x:=by omega
   by_cases z:(eAt t.ents x).kind=(kd:Int)
   ·have h0:((eAt t.ents x).kind == (kd:Int))=true:=by rw [z];simp
    have e:nxt t.ents kd n=x:=d.out.symm.trans (qZ y z);rw [e,if_pos y,decide_eq_true y] at hR;rw [z] at c0;clear z h0 e;generalize t.ents.length=h2 at*;go_wp2;exact hR.out _ _ ⟨rfl,rfl⟩
   have h0:((eAt t.ents x).kind == (kd:Int))=false:=by rw [beq_eq_false_iff_ne];exact z
   have h4:Hid (nxt t.ents kd (x+1)=nxt t.ents kd n):=(aMi z).symm.trans d.out;have h6:x<20:=by omega
   clear z;generalize (eAt t.ents x).kind=kx at*;generalize h5:t.ents.length=h2 at*;go_wp2;exact ⟨⟨x+1,by omega,by go_num,h4.out,by first|rfl|trivial⟩,by simp [intOf];omega⟩
  have h3:¬ (x:Int)<(t.ents.length:Int):=by omega
  have e:nxt t.ents kd n=t.ents.length:=d.out.symm.trans (aEy (by omega));rw [e,if_neg (Nat.lt_irrefl _),decide_eq_false (Nat.lt_irrefl _)] at hR;clear e;generalize t.ents.length=h2 at*;go_wp2;exact hR.out _ _ ⟨rfl,rfl⟩
theorem QL.aSI (T3:Three l i j k) (hf:Fam w0 w (QL l i j k q r b m t)) (z:kU w b ev qv wv nx wl t) (hp:t.ph=0) {d:World} {v':Value} {y:En} (he:iO d 48 0 v' (t.ents ++ [y])) (ho:Only ev.ownBlock.toList w d) (h0:v'.ownBlock=ev.ownBlock\/∃ g,v'.ownBlock=some g/\w.heap.size<=g) :
  d.cell? ⟨b,0,none⟩=some ev/\d.frozen? ⟨b,0,none⟩=false/\Fam w0 (d.setCell ⟨b,0,none⟩ v') (QL l i j k q r b m ⟨t.ents ++ [y],t.q,t.ph,t.nx,t.fd⟩):=by
 have h4:b<w.heap.size:=by obtain ⟨U,hr⟩:=z.row;exact hr.lt
 have h3:∃ U,Row d b U [ev,qv,.int .i64 (t.ph:Int),.int .i64 (nx:Int),wv]:=z.row.imp fun U x=>ho.row x (fun hm=>(z.n1 b (jL hm)).1 rfl);have hP:aI (fun x=>x=b\/ev.ownBlock=some x) w (d.setCell ⟨b,0,none⟩ v'):=((ho.toP (S:=fun x=>x=b\/ev.ownBlock=some x) (fun x hx=>.inl (.inr (jL hx))))).set (.inl (.inl rfl)) _;have hs:Only [b] d (d.setCell ⟨b,0,none⟩ v'):=(Only.refl _ d).set (.inl (by simp)) _;have h1:∀ g,v'.ownBlock=some g->g≠b/\wv.ownBlock≠some g/\qv.ownBlock≠some g:=fun g hg=>by
  rcases h0 with h|⟨g2,h,h2⟩
  ·exact z.n1 g (by rw [<-h];exact hg)
  rw [h] at hg
  cases hg
  refine ⟨by omega,fun e=>?_,fun e=>?_⟩
  ·have:=(z.wh.own _ e).2;omega
  have:=(z.q.own _ e).2;omega
 obtain ⟨U,hr⟩:=h3;refine ⟨hr.cell 0 rfl,hr.free 0,QL.trT T3 hf z v' qv wv nx wl _ ⟨⟨U,hr.set 0 _⟩,he.only hs (fun x hx=>by have:=(h1 x hx).1;simpa using this),z.q.dA hP (fun x hx=>?_),z.wh.dA hP (fun x hx=>?_),⟨fun e=>absurd (show t.ph=1 from e) (by omega),fun e=>absurd (show t.ph=2 from e) (by omega),fun e=>absurd (show t.ph=4 from e) (by omega)⟩,⟨z.two.1,fun e=>absurd (show t.ph=2 from e) (by omega)⟩,h1,z.n2,z.n3⟩ (fun x hx=>?_) (hP.mono (fun x hx=>.inl ?_))⟩
 ·rintro (h|h)
  ·exact (z.n2 x hx).1 h
  exact (z.n1 x h).2.2 hx
 ·rintro (h|h)
  ·exact z.n3 (by rw [<-h];exact hx)
  exact (z.n1 x h).2.1 hx
 ·rcases hx with hx|hx|hx|hx
  ·exact .inl (.inl hx)
  ·rcases h0 with h|⟨g2,h,h2⟩
   ·exact .inl (.inr (.inl (by rw [<-h];exact hx)))
   rw [h] at hx;cases hx;exact .inr h2
  ·exact .inl (.inr (.inr (.inl hx)))
  exact .inl (.inr (.inr (.inr hx)))
 rcases hx with hx|hx
 ·exact .inl hx
 exact .inr (.inl hx)
theorem aJk (w:World) (T3:Three l i j k) (hf:Fam w0 w (QL l i j k q r b m t)) (kd x g:Int):Calls prog 146 #[.pointer (some ⟨b,0,none⟩),.pointer (some ⟨r,0,none⟩),.int .i64 kd,.int .i64 x,.int .i64 g] w (fun e w'=>e=.returned (.tuple #[.int .i64 (t.add m kd x g).1,.int .i64 (t.add m kd x g).2.1])/\Fam w0 w' (QL l i j k q r b m (t.add m kd x g).2.2)):=by
 refine aF fun R y=>?_;obtain ⟨ev,qv,wv,nx,wl,ht⟩:=QL.tr T3 hf;obtain ⟨z0,z1,z2,z3,z4,zf⟩:=ht.cells;have cc:=aAQ w T3.t2 hf x;have HT:=aA ht;have HF:=aA hf;unfold Tb.add at y;clear z1 z3 z4 zf
 by_cases h1:kd<1\/3<kd
 ·rw [if_pos h1] at y;clear hf ht cc
  by_cases h2:kd<1
  ·clear h1;go_in;go_wp2;exact y.out _ _ ⟨rfl,HF.out⟩
  have h3:=h1.resolve_left h2;clear h1;go_in;go_wp2;exact y.out _ _ ⟨rfl,HF.out⟩
 rw [if_neg h1] at y;have h2:¬ kd<1:=fun h=>h1 (.inl h);have h3:¬ 3<kd:=fun h=>h1 (.inr h);clear h1;have h0:m.color x=if (m.M.ob x).isSome then (m.col x,0) else (0,3):=rfl
 by_cases hp:t.ph=0
 rotate_left
 ·rw [if_pos hp] at y;have y2:((t.ph:Int) != 0)=true:=by simp;omega
  clear hf ht h0 cc hp;generalize t.ph=ph at*;go_in;go_wp2;exact y.out _ _ ⟨rfl,HF.out⟩
 rw [if_neg (fun h=>h hp)] at y;have HP:=aA hp;rw [hp] at z2;replace z2:w.cell? ⟨b,2,none⟩=some (.int .i64 0):=z2
 cases hs:(m.M.ob x).isSome with
 | false=>
  rw [if_pos hs] at y;rw [h0,hs] at cc;clear hf ht h0 hp;go_in;go_wp2_with fail;refine cc.mono ?_;rintro e w1 ⟨rfl,z⟩;have h7:=aA (HF.out.aN z);clear cc z;go_wp2;exact y.out _ _ ⟨rfl,h7.out⟩
 | true=>
  rw [if_neg (by rw [hs];simp)] at y;rw [h0,hs] at cc;obtain ⟨a,c,x2⟩:=HT.out.ents.len;clear h0 hp hf ht
  by_cases h5:20<=t.ents.length
  ·rw [if_pos h5] at y;have x3:(20:Int)<=(t.ents.length:Int):=by omega
   subst x2;clear h5;generalize t.ents.length=h6 at*;go_in;go_wp2_with fail;refine cc.mono ?_;rintro e w1 ⟨rfl,z⟩;have h7:=aA (HF.out.aN z);have y0:=z.cell z0 (by simp);clear cc z;go_wp2;exact y.out _ _ ⟨rfl,h7.out⟩
  rw [if_neg h5] at y;have x3:¬ (20:Int)<=(t.ents.length:Int):=by omega
  have x8:Hid (t.ents.length<=1000000):=by show _<=_;omega
  subst x2;obtain ⟨h6,h4⟩:∃ n,n=t.ents.length:=⟨_,rfl⟩;rw [<-h4] at y x3 z0;have d:=aA h4;clear h4 h5;go_in;go_wp2_with fail;refine cc.mono ?_;rintro e w1 ⟨rfl,z⟩;have y0:=z.cell z0 (by simp);have x5:=aA (HF.out.aN z);have x9:=aA (HT.out.aN z);clear cc z;have HY:Hid (Row (w1.alloc (.cells #[.int .i64 kd,.int .i64 x,.int .i64 g] 48)) w1.heap.size 48 (enC ⟨kd,x,g⟩)):=Row.new w1 _ _;have x6:=aA (x5.out.alloc (.cells #[.int .i64 kd,.int .i64 x,.int .i64 g] 48));have h8:=aA (x9.out.aN ((Only.refl [] w1).alloc (.cells #[.int .i64 kd,.int .i64 x,.int .i64 g] 48)));go_wp2_with (at_builtin;refine aIl rfl _ _ rfl _ t.ents (by rw [<-d.out];rfl) h8.out.ents _ _ ⟨kd,x,g⟩ rfl HY.out (by have:=x8.out;have:=d.out;omega) ?_);intro v' w2 he z h9;have x1:v'.ownBlock=(Value.slice a t.ents.length c).ownBlock\/∃ g2,v'.ownBlock=some g2/\(w1.alloc (.cells #[.int .i64 kd,.int .i64 x,.int .i64 g] 48)).heap.size<=g2:=h9.imp id (fun h=>⟨_,h,by simp⟩);have hA:=QL.aSI T3 x6.out h8.out HP.out he z x1;obtain ⟨q1,q2,q3⟩:=hA;rw [<-d.out] at q1;have HQ:=aA q3;have x7:Hid ((t.ents ++ [⟨kd,x,g⟩]:List En).length=h6+1):=by show _=_;rw [List.length_append,d.out];rfl
  obtain ⟨a2,c2,x4⟩:=he.len;rw [x7.out] at x4;subst x4;clear he z h9 x1 q3;have y1:(h6:Int)+1 - 1=h6:=by omega
  go_wp2;exact y.out _ _ ⟨rfl,HQ.out⟩
end
theorem Bls.setAt {w:World} {base g n cap:Nat} {l:List Bool} (h:Bls w base (.slice (some ⟨g,0,none⟩) n cap) l) (i:Nat) (y:Bool):Bls (w.setCell ⟨g,i,none⟩ (.bool y)) base (.slice (some ⟨g,0,none⟩) n cap) (l.set i y):=by
 rcases h.form with ⟨e,_⟩|⟨g2,z,e,_⟩
 ·cases e
 simp only [Value.slice.injEq,Option.some.injEq,Addr.mk.injEq] at e;obtain ⟨⟨rfl,_⟩,rfl,rfl⟩:=e;have d:=(World.ownsRow.stored h i (.bool y)).1;unfold Bls;rw [List.length_set,List.map_set];exact d
theorem Bls.ofRow {w:World} {base g:Nat} {l:List Bool} (hb:base<=g) (y:Row w g 4 (l.map Value.bool)) (z:l.length<=1000000):Bls w base (.slice (some ⟨g,0,none⟩) l.length l.length) l:=by
 refine ⟨by simp,.inr ⟨g,l.length,(l.map Value.bool).toArray,rfl,hb,y,Nat.le_refl _,by simp only [maxLen];omega,by simp,?_⟩⟩;rw [Nat.mul_one];exact List.take_of_length_le (by simp)
section
variable {l:List Asn} {i j k q r b:Nat} {m:Mk} {t u:Tb} {w0 w w':World} {ev qv wv:Value} {nx:Nat} {wl:List Bool}
theorem QL.aRb (z:Three l i j k) (d:Fam w0 w (QL l i j k q r b m t)) (n:Nat) (h1:t.ph=1->nxt t.ents 1 n=nxt t.ents 1 t.nx) (h2:t.ph=2->nxt t.ents 2 n=nxt t.ents 2 t.nx) (h4:t.ph=4->nxt t.ents 3 n=nxt t.ents 3 t.nx):Fam w0 w (QL l i j k q r b m (t.at t.ph n)):=by
 obtain ⟨ev,qv,wv,nx,wl,y⟩:=QL.tr z d;exact QL.trT z d y ev qv wv nx wl _ ⟨y.row,y.ents,y.q,y.wh,⟨fun e=>(y.now.1 e).trans (h1 e).symm,fun e=>(y.now.2.1 e).trans (h2 e).symm,fun e=>(y.now.2.2 e).trans (h4 e).symm⟩,y.two,y.n1,y.n2,y.n3⟩ (fun x hx=>.inl hx) (aI.refl _ _)
theorem QL.to4 (z:Three l i j k) (d:Fam w0 w (QL l i j k q r b m t)):Fam w0 ((w.setCell ⟨b,2,none⟩ (.int .i64 4)).setCell ⟨b,3,none⟩ (.int .i64 0)) (QL l i j k q r b m (t.aAf 0)):=by
 obtain ⟨ev,qv,wv,nx,wl,y⟩:=QL.tr z d;have ho:Only [b] w ((w.setCell ⟨b,2,none⟩ (.int .i64 4)).setCell ⟨b,3,none⟩ (.int .i64 0)):=((Only.refl _ w).set (.inl (by simp)) _).set (.inl (by simp)) _;obtain ⟨h1,h2,h3⟩:=y.rest ho;exact QL.trT z d y ev qv wv 0 wl _ ⟨y.row.imp fun U x=>(x.set 2 _).set 3 _,h1,h2,h3,⟨fun e=>by simp [Tb.aAf,Tb.at] at e,fun e=>by simp [Tb.aAf,Tb.at] at e,fun _=>xZ.symm⟩,⟨y.two.1,fun e=>by simp [Tb.aAf,Tb.at] at e⟩,y.n1,y.n2,y.n3⟩ (fun x hx=>.inl hx) (ho.toP (fun x hx=>.inl (.inl (by simpa using hx))))
theorem QL.to3 (y:Three l i j k) (z:Fam w0 w (QL l i j k q r b m t)):Fam w0 (w.setCell ⟨b,2,none⟩ (.int .i64 3)) (QL l i j k q r b m (t.at 3 0)):=
 QL.aCu y z 3 (by omega) 0 (fun _ _ _ _ _ _=>⟨fun e=>by simp [Tb.at] at e,fun e=>by simp [Tb.at] at e,fun e=>by simp [Tb.at] at e⟩)
theorem QL.to2 (e:Three l i j k) (hf:Fam w0 w (QL l i j k q r b m t)) (y:kU w b ev qv wv nx wl t) (hl:wl.length=t.ents.length) (hw:∀ i,i<t.ents.length->gB wl i=m.isW (eAt t.ents i).tgt):Fam w0 ((w.setCell ⟨b,2,none⟩ (.int .i64 2)).setCell ⟨b,3,none⟩ (.int .i64 0)) (QL l i j k q r b m ((t.find m).at 2 0)):=by
 have d:Only [b] w ((w.setCell ⟨b,2,none⟩ (.int .i64 2)).setCell ⟨b,3,none⟩ (.int .i64 0)):=((Only.refl _ w).set (.inl (by simp)) _).set (.inl (by simp)) _;obtain ⟨h1,h2,h3⟩:=y.rest d;refine QL.trT e hf y ev qv wv 0 wl _ ⟨y.row.imp fun U x=>(x.set 2 _).set 3 _,h1,h2,h3,aAv.self _,⟨y.two.1,fun _=>⟨hl,fun i hi z=>?_⟩⟩,y.n1,y.n2,y.n3⟩ (fun x hx=>.inl hx) (d.toP (fun x hx=>.inl (.inl (by simpa using hx))));show gB wl i=(decide ((eAt t.ents i).kind=2) && m.isW (eAt t.ents i).tgt);replace z:(eAt t.ents i).kind=2:=z;rw [z,hw i hi];rfl
theorem QL.mkW (T3:Three l i j k) (hf:Fam w0 w (QL l i j k q r b m t)) (z:kU w b ev qv wv nx wl t) (hp:t.ph≠2) {C:Array Value} {n:Nat} (hn:n<=20) (hC:C.toList=(List.replicate n false).map Value.bool) :
  kU ((w.alloc (.cells C 4)).setCell ⟨b,4,none⟩ (.slice (some ⟨w.heap.size,0,none⟩) n n)) b ev qv (.slice (some ⟨w.heap.size,0,none⟩) n n) nx (List.replicate n false) t/\Fam w0 ((w.alloc (.cells C 4)).setCell ⟨b,4,none⟩ (.slice (some ⟨w.heap.size,0,none⟩) n n)) (QL l i j k q r b m t):=by
 have h5:b<w.heap.size:=by obtain ⟨U,hr⟩:=z.row;exact hr.lt
 have h0:Only [] w (w.alloc (.cells C 4)):=(Only.refl [] w).alloc _;have ho:Only [b] (w.alloc (.cells C 4)) ((w.alloc (.cells C 4)).setCell ⟨b,4,none⟩ (.slice (some ⟨w.heap.size,0,none⟩) n n)):=(Only.refl _ _).set (.inl (by simp)) _;have h4:=z.aN h0;obtain ⟨h1,h2,h3⟩:=h4.rest ho;have hr:Row (w.alloc (.cells C 4)) w.heap.size 4 ((List.replicate n false).map Value.bool):=by rw [<-hC];exact Row.new w 4 C.toList
 have hB:Bls (w.alloc (.cells C 4)) 0 (.slice (some ⟨w.heap.size,0,none⟩) n n) (List.replicate n false):=by
  have:=Bls.ofRow (Nat.zero_le _) hr (by simp;omega);rwa [List.length_replicate] at this
 have d:∀ g,(Value.slice (some ⟨w.heap.size,0,none⟩) n n).ownBlock=some g->g=w.heap.size:=fun g y=>by
  have:w.heap.size=g:=by simpa [Value.ownBlock] using y
  exact this.symm
 have hT:kU ((w.alloc (.cells C 4)).setCell ⟨b,4,none⟩ (.slice (some ⟨w.heap.size,0,none⟩) n n)) b ev qv (.slice (some ⟨w.heap.size,0,none⟩) n n) nx (List.replicate n false) t:=
  ⟨h4.row.imp fun U x=>x.set 4 _,h1,h2,hB.only ho (fun g y=>by have:=d g y;simp;omega),z.now,⟨by simp;omega,fun e=>absurd e hp⟩,fun g y=>⟨(z.n1 g y).1,fun e=>by have:=d g e;have:=(z.ents.own _ y).2;omega,(z.n1 g y).2.2⟩,fun g y=>⟨(z.n2 g y).1,fun e=>by have:=d g e;have:=(z.q.own _ y).2;omega⟩,fun e=>by have:=d b e;omega⟩
 refine ⟨hT,QL.trT T3 hf z ev qv _ nx _ _ hT (fun x hx=>?_) ((h0.mono (G:=[b]) (by simp)).trans ho (by simp) |>.toP (fun x hx=>.inl (.inl (by simpa using hx))))⟩;rcases hx with hx|hx|hx|hx
 ·exact .inl (.inl hx)
 ·exact .inl (.inr (.inl hx))
 ·exact .inl (.inr (.inr (.inl hx)))
 cases hx;exact .inr (Nat.le_refl _)
theorem QL.aTP (T3:Three l i j k) (hf:Fam w0 w (QL l i j k q r b m t)) {wg n c:Nat} (d:kU w b ev qv (.slice (some ⟨wg,0,none⟩) n c) nx wl t) (hp:t.ph≠2) (x:Nat) (y:Bool) :
  kU (w.setCell ⟨wg,x,none⟩ (.bool y)) b ev qv (.slice (some ⟨wg,0,none⟩) n c) nx (wl.set x y) t/\Fam w0 (w.setCell ⟨wg,x,none⟩ (.bool y)) (QL l i j k q r b m t):=by
 have ho:Only [wg] w (w.setCell ⟨wg,x,none⟩ (.bool y)):=(Only.refl _ w).set (.inl (by simp)) _;have hT:kU (w.setCell ⟨wg,x,none⟩ (.bool y)) b ev qv (.slice (some ⟨wg,0,none⟩) n c) nx (wl.set x y) t:=
  ⟨d.row.imp fun U z=>ho.row z (fun e=>d.n3 (by simp at e;rw [e];rfl)),d.ents.only ho (fun g hg e=>(d.n1 g hg).2.1 (by simp at e;rw [e];rfl)),d.q.only ho (fun g hg e=>(d.n2 g hg).2 (by simp at e;rw [e];rfl)),d.wh.setAt x y,d.now,⟨by rw [List.length_set];exact d.two.1,fun e=>absurd e hp⟩,d.n1,d.n2,d.n3⟩
 exact ⟨hT,QL.trT T3 hf d ev qv _ nx _ _ hT (fun x hx=>.inl hx) (ho.toP (fun x hx=>.inl (.inr (.inr (.inr (by simp at hx;rw [hx];rfl))))))⟩
theorem aGD (w:World) (T3:Three l i j k) (d:Fam w0 w (QL l i j k q r b m t)) (hg:t.Good m) (y:t.ph=4):Calls prog 76 #[.pointer (some ⟨b,0,none⟩),.pointer (some ⟨r,0,none⟩)] w (fun e w'=>e=.returned (.tuple #[])/\Fam w0 w' (QL l i j k q r b m (t.settle m))):=by
 refine aF fun R z=>?_;obtain ⟨ev,qv,wv,nx,wl,ht⟩:=QL.tr T3 d;obtain ⟨_,_,x2,_,_,_⟩:=ht.cells;replace x2:w.cell? ⟨b,2,none⟩=some (.int .i64 4):=by rw [x2,y];rfl
 have iE:Hid (Fam w0 w (QL l i j k q r b m (t.settle m))):=by
  show Fam _ _ _;have e:t.settle m=t.at t.ph (nxt t.ents 3 t.nx):=by unfold Tb.settle;rw [if_neg (by omega),if_neg (by omega),if_neg (by omega),if_pos y];unfold Tb.aAf;rw [y]
  rw [e];exact QL.aRb T3 d _ (fun e=>absurd e (by omega)) (fun e=>absurd e (by omega)) (fun e=>xZ)
 clear d hg ht y;go_in;go_wp2_with fail
 first
 | (refine bodyPost_ret (results_none rfl _ _ _) rfl ?_;exact z.out _ _ ⟨rfl,iE.out⟩)
 | exact z.out _ _ ⟨rfl,iE.out⟩
 | (go_end0;exact z.out _ _ ⟨rfl,iE.out⟩)
theorem aGE (w:World) (T3:Three l i j k) (hf:Fam w0 w (QL l i j k q r b m t)) (hg:t.Good m) (hp:t.ph=3):Calls prog 76 #[.pointer (some ⟨b,0,none⟩),.pointer (some ⟨r,0,none⟩)] w (fun e w'=>e=.returned (.tuple #[])/\Fam w0 w' (QL l i j k q r b m (t.settle m))):=by
 refine aF fun R hR=>?_;have y:=aA hf;have h2:=aA hp;have hz:=hg.z3 hp;have h3:Hid (Fam w0 w (QL l i j k q r b m (t.at 3 0))):=by
  show Fam _ _ _;have e:t.at 3 0=t:=by unfold Tb.at;rw [<-hp,<-hz]
  rw [e];exact hf
 have h0:Hid (t.pU m=t.settle m):=by show _=_;unfold Tb.settle;rw [if_neg (by omega),if_neg (by omega),if_pos hp]
 clear hf hg hp hz;go_in;obtain ⟨h4,h6,h8,h5,h7,h1⟩:=QL.tr T3 y.out;obtain ⟨_,_,x2,x3,_,xf⟩:=h1.cells;replace x2:(w).cell? ⟨b,2,none⟩=some (.int .i64 3):=by rw [x2,h2.out];rfl
 have h9:=xf 2;have x1:=xf 3;have cd:=jX (w) T3.t2 y.out;have d:=aA (QL.to4 T3 y.out);clear h1 xf
 by_cases hl:m.list=[]
 ·have z:Hid (Fam w0 (((w).setCell ⟨b,2,none⟩ (.int .i64 4)).setCell ⟨b,3,none⟩ (.int .i64 0)) (QL l i j k q r b m (t.settle m))):=by
   show Fam _ _ _;rw [<-h0.out];unfold Tb.pU;rw [if_pos hl];exact d.out
  rw [decide_eq_true hl] at cd;clear hl y d;go_wp2_with fail;refine cd.mono ?_;rintro e _ ⟨rfl,rfl⟩;clear cd;go_wp2_with fail
  first
  | (refine bodyPost_ret (results_none rfl _ _ _) rfl ?_;exact hR.out _ _ ⟨rfl,z.out⟩)
  | exact hR.out _ _ ⟨rfl,z.out⟩
  | (go_end0;exact hR.out _ _ ⟨rfl,z.out⟩)
 have z:Hid (Fam w0 (w) (QL l i j k q r b m (t.settle m))):=by
  show Fam _ _ _;rw [<-h0.out];unfold Tb.pU;rw [if_neg hl];exact h3.out
 rw [decide_eq_false hl] at cd;clear hl y d;go_wp2_with fail;refine cd.mono ?_;rintro e _ ⟨rfl,rfl⟩;clear cd;go_wp2_with fail
 first
 | (refine bodyPost_ret (results_none rfl _ _ _) rfl ?_;exact hR.out _ _ ⟨rfl,z.out⟩)
 | exact hR.out _ _ ⟨rfl,z.out⟩
 | (go_end0;exact hR.out _ _ ⟨rfl,z.out⟩)
theorem aGF (w:World) (T3:Three l i j k) (hf:Fam w0 w (QL l i j k q r b m t)) (hg:t.Good m) (hp:t.ph=2):Calls prog 76 #[.pointer (some ⟨b,0,none⟩),.pointer (some ⟨r,0,none⟩)] w (fun e w'=>e=.returned (.tuple #[])/\Fam w0 w' (QL l i j k q r b m (t.settle m))):=by
 refine aF fun R hR=>?_;have z:=aA hf;have h1:=aA hp;have x1:=aA hg.b.le;have h4:Hid (t.set2 m t.nx=t.settle m):=by show _=_;unfold Tb.settle;rw [if_neg (by omega),if_pos hp]
 clear hf hg hp;go_in;obtain ⟨x7,y0,y4,h5,y2,h2⟩:=QL.tr T3 z.out;obtain ⟨_,_,x2,x3,_,xf⟩:=h2.cells;replace x2:(w).cell? ⟨b,2,none⟩=some (.int .i64 2):=by rw [x2,h1.out];rfl
 have cl:Calls prog 152 #[.pointer (some ⟨b,0,none⟩),.int .i64 2,.int .i64 (h5:Int)] (w) _:=kW (w) h2 x1.out 2 h5;have h8:=h2.now.2.1 h1.out;have h7:nxt (t).ents ((2:Nat):Int) h5=nxt (t).ents 2 (t).nx:=h8;rw [h7] at cl;have x6:=xf 2;clear h2 xf h8 h7
 by_cases y:nxt (t).ents 2 (t).nx<(t).ents.length
 ·as_aux_lemma=>
  have d:Hid (Fam w0 (w) (QL l i j k q r b m (t.settle m))):=by
   show Fam _ _ _;rw [<-h4.out];unfold Tb.set2;rw [if_pos y,<-h1.out];exact QL.aRb T3 z.out _ (fun e=>absurd e (by rw [h1.out];decide)) (fun e=>xZ) (fun e=>absurd e (by rw [h1.out];decide))
  rw [if_pos y,decide_eq_true y] at cl;clear y z;go_wp2_with fail;refine cl.mono ?_;rintro e _ ⟨rfl,rfl⟩;clear cl;go_wp2_with fail
  first
  | (refine bodyPost_ret (results_none rfl _ _ _) rfl ?_;exact hR.out _ _ ⟨rfl,d.out⟩)
  | exact hR.out _ _ ⟨rfl,d.out⟩
  | (go_end0;exact hR.out _ _ ⟨rfl,d.out⟩)
 ·as_aux_lemma=>
  have h0:=aA (QL.to3 T3 z.out);have x5:=aA (QL.to3 T3 z.out);have x4:Hid (((t).at 3 0).ph=3):=rfl;have h6:Hid ((t).pU m=t.settle m):=by
   show _=_;rw [<-h4.out];unfold Tb.set2;rw [if_neg y]
  rw [if_neg y,decide_eq_false y] at cl;clear y z h4;go_wp2_with fail;refine cl.mono ?_;rintro e _ ⟨rfl,rfl⟩;clear cl x3;obtain ⟨x8,y1,y5,x9,y3,h9⟩:=QL.tr T3 h0.out;obtain ⟨_,_,x2,x3,_,xf⟩:=h9.cells;replace x2:((w).setCell ⟨b,2,none⟩ (.int .i64 3)).cell? ⟨b,2,none⟩=some (.int .i64 3):=by rw [x2,x4.out];rfl
  have x6:=xf 2;have y6:=xf 3;have cd:=jX ((w).setCell ⟨b,2,none⟩ (.int .i64 3)) T3.t2 h0.out;have h3:=aA (QL.to4 T3 h0.out);clear h9 xf
  by_cases hl:m.list=[]
  ·have d:Hid (Fam w0 ((((w).setCell ⟨b,2,none⟩ (.int .i64 3)).setCell ⟨b,2,none⟩ (.int .i64 4)).setCell ⟨b,3,none⟩ (.int .i64 0)) (QL l i j k q r b m (t.settle m))):=by
    show Fam _ _ _;rw [<-h6.out];unfold Tb.pU;rw [if_pos hl];exact h3.out
   rw [decide_eq_true hl] at cd;clear hl h0 h3;go_wp2_with fail;refine cd.mono ?_;rintro e _ ⟨rfl,rfl⟩;clear cd;go_wp2_with fail
   first
   | (refine bodyPost_ret (results_none rfl _ _ _) rfl ?_;exact hR.out _ _ ⟨rfl,d.out⟩)
   | exact hR.out _ _ ⟨rfl,d.out⟩
   | (go_end0;exact hR.out _ _ ⟨rfl,d.out⟩)
  have d:Hid (Fam w0 ((w).setCell ⟨b,2,none⟩ (.int .i64 3)) (QL l i j k q r b m (t.settle m))):=by
   show Fam _ _ _;rw [<-h6.out];unfold Tb.pU;rw [if_neg hl];exact x5.out
  rw [decide_eq_false hl] at cd;clear hl h0 h3;go_wp2_with fail;refine cd.mono ?_;rintro e _ ⟨rfl,rfl⟩;clear cd;go_wp2_with fail
  first
  | (refine bodyPost_ret (results_none rfl _ _ _) rfl ?_;exact hR.out _ _ ⟨rfl,d.out⟩)
  | exact hR.out _ _ ⟨rfl,d.out⟩
  | (go_end0;exact hR.out _ _ ⟨rfl,d.out⟩)
theorem aGG (w:World) (T3:Three l i j k) (hf:Fam w0 w (QL l i j k q r b m t)) (hg:t.Good m) (hp:t.ph=1):Calls prog 76 #[.pointer (some ⟨b,0,none⟩),.pointer (some ⟨r,0,none⟩)] w (fun e w'=>e=.returned (.tuple #[])/\Fam w0 w' (QL l i j k q r b m (t.settle m))):=by
 refine aF fun R hR=>?_;obtain ⟨ev,qv,wv,nx,wl,ht⟩:=QL.tr T3 hf;obtain ⟨x0,_,x2,x3,x4,xf⟩:=ht.cells;replace x2:w.cell? ⟨b,2,none⟩=some (.int .i64 1):=by rw [x2,hp];rfl
 have cl:Calls prog 152 #[.pointer (some ⟨b,0,none⟩),.int .i64 1,.int .i64 (nx:Int)] w _:=kW w ht hg.b.le 1 nx;have x5:nxt t.ents ((1:Nat):Int) nx=nxt t.ents 1 t.nx:=ht.now.1 hp;rw [x5] at cl;have x7:=aA hf;have h7:=aA ht;have h1:=aA hp;have x8:=aA hg.b.le;have b0:=xf 4;clear hf ht hg x5 hp xf
 by_cases d:nxt t.ents 1 t.nx<t.ents.length
 ·as_aux_lemma=>
  have iE:Hid (Fam w0 w (QL l i j k q r b m (t.settle m))):=by
   show Fam _ _ _;unfold Tb.settle;rw [if_pos h1.out];unfold Tb.set1;rw [if_pos d,<-h1.out];exact QL.aRb T3 x7.out _ (fun e=>xZ) (fun e=>absurd e (by rw [h1.out];decide)) (fun e=>absurd e (by rw [h1.out];decide))
  rw [if_pos d,decide_eq_true d] at cl;clear d x7 h7;go_in;go_wp2_with fail;refine cl.mono ?_;rintro e _ ⟨rfl,rfl⟩;clear cl;go_wp2_with fail
  first
  | (refine bodyPost_ret (results_none rfl _ _ _) rfl ?_;exact hR.out _ _ ⟨rfl,iE.out⟩)
  | exact hR.out _ _ ⟨rfl,iE.out⟩
  | (go_end0;exact hR.out _ _ ⟨rfl,iE.out⟩)
 have y9:Hid (((t.find m).at 2 0).set2 m ((t.find m).at 2 0).nx=t.settle m):=by
  show _=_;unfold Tb.settle;rw [if_pos h1.out];unfold Tb.set1;rw [if_neg d];rfl
 rw [if_neg d,decide_eq_false d] at cl;obtain ⟨a,c,z2⟩:=h7.out.ents.len;obtain ⟨n,hn⟩:∃ z,z=t.ents.length:=⟨_,rfl⟩;have HN:=aA hn;rw [<-hn] at z2;subst z2;have a4:n<=20:=by rw [hn];exact x8.out
 obtain ⟨C,hC,a6⟩:=aMn n (by omega);have hW:=QL.mkW T3 x7.out h7.out (by rw [h1.out];decide) a4 hC;have z1:=aA hW.1;have y7:=aA hW.2;have a9:(w.alloc (.cells C 4)).cell? ⟨b,4,none⟩=some wv:=by rw [World.cell?_alloc_past _ _ _ (World.block_lt_of_cell? w _ x4)];exact x4
 have a3:(w.alloc (.cells C 4)).frozen? ⟨b,4,none⟩=false:=(h7.out.aN ((Only.refl [] w).alloc _)).cells.2.2.2.2.2 4;clear d x7 h7 hn hC hW x4 b0;go_in;go_wp2_with fail;refine cl.mono ?_;rintro e _ ⟨rfl,rfl⟩;clear cl;go_wp2_with fail;generalize ((w.alloc (.cells C 4)).setCell ⟨b,4,none⟩ (.slice (some ⟨w.heap.size,0,none⟩) n n))=w1 at*;generalize w.heap.size=wg at*;clear a6 a9 a3 x0 x2 x3;go_loopw [6] (fun iv wr=>∃ (x:Nat) (wl:List Bool),x<=n/\iv=.int .i64 x/\Fam w0 wr (QL l i j k q r b m t)/\kU wr b (.slice a n c) qv (.slice (some ⟨wg,0,none⟩) n n) nx wl t/\Hid (wl.length=n/\∀ y,y<x->gB wl y=m.isW (eAt t.ents y).tgt)) (fun iv _=>n - (intOf iv).toNat)
 case atStart=>exact ⟨0,_,by omega,rfl,y7.out,z1.out,⟨List.length_replicate,fun y hy=>by omega⟩⟩
 case round=>as_aux_lemma=>
  clear y7 z1;obtain ⟨x,wl,hx,rfl,hf,ht,h8⟩:=hrel;obtain ⟨x0,_,_,_,x4,_⟩:=ht.cells;have HF:=aA hf;have HT:=aA ht;clear hf
  by_cases x1:x<n
  ·as_aux_lemma=>
   have z6:(x:Int)<(n:Int):=by omega
   have b5:(0:Int)<=x:=by omega
   obtain ⟨g,cap,hv,_,_,_,c1,_,_⟩:=ht.ents.at (i:=x) (by rw [<-HN.out];exact x1);rw [<-HN.out] at hv;simp only [Value.slice.injEq,true_and] at hv;obtain ⟨rfl,rfl⟩:=hv;have HP:Hid (∀ w8,Only [] wr.drew w8->w8.cell? ⟨b,4,none⟩=some (.slice (some ⟨wg,0,none⟩) n n)/\w8.cell? ⟨b,0,none⟩=some (.slice (some ⟨g,0,none⟩) n c)/\w8.cell? ⟨g,x*3+1,none⟩=some (.int .i64 (eAt t.ents x).tgt)/\w8.frozen? ⟨wg,x,none⟩=false/\(∃ u,w8.cell? ⟨wg,x,none⟩=some u)/\∃ h2,kU (w8.setCell ⟨wg,x,none⟩ (.bool (m.isW (eAt t.ents x).tgt))) b (.slice (some ⟨g,0,none⟩) n c) qv (.slice (some ⟨wg,0,none⟩) n n) nx h2 t/\Fam w0 (w8.setCell ⟨wg,x,none⟩ (.bool (m.isW (eAt t.ents x).tgt))) (QL l i j k q r b m t)/\(h2.length=n/\∀ y,y<x+1->gB h2 y=m.isW (eAt t.ents y).tgt)/\(w8.setCell ⟨wg,x,none⟩ (.bool (m.isW (eAt t.ents x).tgt))).cell? ⟨g,x*3+1,none⟩=some (.int .i64 (eAt t.ents x).tgt)):=fun w8 ho=>by
    have h5:Only [] wr w8:=((Only.refl [] wr).drew).trans ho (by simp);have x6:=HT.out.aN h5;have a5:=HF.out.aN h5;obtain ⟨hT,hF⟩:=QL.aTP T3 a5 x6 (by rw [h1.out];decide) x (m.isW (eAt t.ents x).tgt);obtain ⟨y0,a7⟩:=h8.out;have a8:w8.ownsRow 0 4 1 (.slice (some ⟨wg,0,none⟩) n n) n (wl.map Value.bool):=by have:=x6.wh;unfold Bls at this;rw [y0] at this;exact this
    rcases x6.wh.form with ⟨e,_⟩|⟨g2,b1,e,_,_,_,hc⟩
    ·cases e
    simp only [Value.slice.injEq,Option.some.injEq,Addr.mk.injEq] at e;obtain ⟨⟨rfl,_⟩,_,_⟩:=e;obtain ⟨g3,b2,e3,_,_,_,d1,_,_⟩:=hT.ents.at (i:=x) (by rw [<-HN.out];exact x1);simp only [Value.slice.injEq,Option.some.injEq,Addr.mk.injEq] at e3;obtain ⟨⟨rfl,_⟩,_,_⟩:=e3;refine ⟨x6.cells.2.2.2.2.1,x6.cells.1,h5.cell c1 (by simp),World.ownsRow.frozenAt a8 x,⟨_,hc x (by rw [y0];exact x1)⟩,_,hT,hF,⟨by rw [List.length_set];exact y0,fun y hy=>?_⟩,d1⟩;rw [aQB (by rw [y0];exact x1)]
    by_cases e:y=x
    ·rw [if_pos e,e]
    rw [if_neg e];exact a7 y (by omega)
   have z7:Hid (Calls prog 161 #[.pointer (some ⟨r,0,none⟩),.int .i64 (eAt t.ents x).tgt] wr.drew (fun e w'=>e=.returned (.bool (m.isW (eAt t.ents x).tgt))/\Only [] wr.drew w')):=xO wr.drew T3.t2 HF.out.drew _;clear ht HF HT h8;generalize m.isW (eAt t.ents x).tgt=wt at*;generalize (eAt t.ents x).tgt=tg at*;go_wp2;go_region_held3 (fun w'=>w'.cell? ⟨b,4,none⟩=some (.slice (some ⟨wg,0,none⟩) n n)/\w'.cell? ⟨b,0,none⟩=some (.slice (some ⟨g,0,none⟩) n c)/\w'.cell? ⟨g,x*3+1,none⟩=some (.int .i64 tg))
    (first|(exact ⟨x4,x0,c1⟩)|(exact ⟨k4,k0,k1⟩)|(exact ⟨q4,q0,q1⟩))
    (first|(go_at_call 161;refine z7.out.mono ?_;rintro e w8 ⟨rfl,h5⟩;obtain ⟨k4,k0,k1,kf,⟨ku,kc⟩,h2,y3,h3⟩:=HP.out w8 h5;obtain ⟨q0,_,_,_,q4,_⟩:=y3.cells;have q1:=h3.2.2;have z9:=aA y3;have y8:=aA h3;clear y3 h3 h5))
   have y4:=y8.out;have z8:=aA y4.1;have a0:Hid (h2.length=n/\∀ y,y<x+1->gB h2 y=m.isW (eAt t.ents y).tgt):=y4.2.1;clear y4 y8 q1 q0 q4 k4 k0 k1 kf kc;go_wp2;exact ⟨⟨x+1,h2,by omega,by go_num,z8.out,z9.out,a0.out⟩,by simp [intOf];omega⟩
  obtain rfl:x=n:=by omega
  have z6:¬ (x:Int)<(x:Int):=by omega
  have h4:Hid (Fam w0 ((wr.setCell ⟨b,2,none⟩ (.int .i64 2)).setCell ⟨b,3,none⟩ (.int .i64 0)) (QL l i j k q r b m ((t.find m).at 2 0))):=
   QL.to2 T3 HF.out HT.out (by rw [h8.out.1];exact HN.out) (fun y hy=>h8.out.2 y (by rw [HN.out];exact hy))
  have h9:Hid (((t.find m).at 2 0).ph=2):=rfl;have y2:=y9;replace x8:Hid (((t.find m).at 2 0).ents.length<=20):=x8.out;have y6:=ht.cells.2.2.2.2.2 2;have z5:=ht.cells.2.2.2.2.2 3;have x2:=ht.cells.2.2.1;have x3:=ht.cells.2.2.2.1;clear ht HF HT h8 y9 x1;go_upto_region 10 with fail;clear x0 x4 x2 x3 y6 z5;generalize (wr.setCell ⟨b,2,none⟩ (.int .i64 2)).setCell ⟨b,3,none⟩ (.int .i64 0)=w2 at*;obtain ⟨b3,b7,c2,y5,b9,x9⟩:=QL.tr T3 h4.out;obtain ⟨_,_,x2,x3,_,xf⟩:=x9.cells;replace x2:(w2).cell? ⟨b,2,none⟩=some (.int .i64 2):=by rw [x2,h9.out];rfl
  have cl:Calls prog 152 #[.pointer (some ⟨b,0,none⟩),.int .i64 2,.int .i64 (y5:Int)] (w2) _:=kW (w2) x9 x8.out 2 y5;have z3:=x9.now.2.1 h9.out;have x5:nxt ((t.find m).at 2 0).ents ((2:Nat):Int) y5=nxt ((t.find m).at 2 0).ents 2 ((t.find m).at 2 0).nx:=z3;rw [x5] at cl;have y6:=xf 2;clear x9 xf z3 x5
  by_cases h0:nxt ((t.find m).at 2 0).ents 2 ((t.find m).at 2 0).nx<((t.find m).at 2 0).ents.length
  ·as_aux_lemma=>
   have iE:Hid (Fam w0 (w2) (QL l i j k q r b m (t.settle m))):=by
    show Fam _ _ _;rw [<-y2.out];unfold Tb.set2;rw [if_pos h0,<-h9.out];exact QL.aRb T3 h4.out _ (fun e=>absurd e (by rw [h9.out];decide)) (fun e=>xZ) (fun e=>absurd e (by rw [h9.out];decide))
   rw [if_pos h0,decide_eq_true h0] at cl;clear h0 h4;go_wp2_with fail;refine cl.mono ?_;rintro e _ ⟨rfl,rfl⟩;clear cl;go_wp2_with fail
   first
   | (refine bodyPost_ret (results_none rfl _ _ _) rfl ?_;exact hR.out _ _ ⟨rfl,iE.out⟩)
   | exact hR.out _ _ ⟨rfl,iE.out⟩
   | (go_end0;exact hR.out _ _ ⟨rfl,iE.out⟩)
  ·as_aux_lemma=>
   have h6:=aA (QL.to3 T3 h4.out);have a2:=aA (QL.to3 T3 h4.out);have a1:Hid ((((t.find m).at 2 0).at 3 0).ph=3):=rfl;have z0:Hid (((t.find m).at 2 0).pU m=t.settle m):=by
    show _=_;rw [<-y2.out];unfold Tb.set2;rw [if_neg h0]
   rw [if_neg h0,decide_eq_false h0] at cl;clear h0 h4 y2;go_wp2_with fail;refine cl.mono ?_;rintro e _ ⟨rfl,rfl⟩;clear cl x3;obtain ⟨b4,b8,c3,b6,c0,z4⟩:=QL.tr T3 h6.out;obtain ⟨_,_,x2,x3,_,xf⟩:=z4.cells;replace x2:((w2).setCell ⟨b,2,none⟩ (.int .i64 3)).cell? ⟨b,2,none⟩=some (.int .i64 3):=by rw [x2,a1.out];rfl
   have y6:=xf 2;have z5:=xf 3;have cd:=jX ((w2).setCell ⟨b,2,none⟩ (.int .i64 3)) T3.t2 h6.out;have y1:=aA (QL.to4 T3 h6.out);clear z4 xf
   by_cases hl:m.list=[]
   ·have iE:Hid (Fam w0 ((((w2).setCell ⟨b,2,none⟩ (.int .i64 3)).setCell ⟨b,2,none⟩ (.int .i64 4)).setCell ⟨b,3,none⟩ (.int .i64 0)) (QL l i j k q r b m (t.settle m))):=by
     show Fam _ _ _;rw [<-z0.out];unfold Tb.pU;rw [if_pos hl];exact y1.out
    rw [decide_eq_true hl] at cd;clear hl h6 y1;go_wp2_with fail;refine cd.mono ?_;rintro e _ ⟨rfl,rfl⟩;clear cd;go_wp2_with fail
    first
    | (refine bodyPost_ret (results_none rfl _ _ _) rfl ?_;exact hR.out _ _ ⟨rfl,iE.out⟩)
    | exact hR.out _ _ ⟨rfl,iE.out⟩
    | (go_end0;exact hR.out _ _ ⟨rfl,iE.out⟩)
   have iE:Hid (Fam w0 ((w2).setCell ⟨b,2,none⟩ (.int .i64 3)) (QL l i j k q r b m (t.settle m))):=by
    show Fam _ _ _;rw [<-z0.out];unfold Tb.pU;rw [if_neg hl];exact a2.out
   rw [decide_eq_false hl] at cd;clear hl h6 y1;go_wp2_with fail;refine cd.mono ?_;rintro e _ ⟨rfl,rfl⟩;clear cd;go_wp2_with fail
   first
   | (refine bodyPost_ret (results_none rfl _ _ _) rfl ?_;exact hR.out _ _ ⟨rfl,iE.out⟩)
   | exact hR.out _ _ ⟨rfl,iE.out⟩
   | (go_end0;exact hR.out _ _ ⟨rfl,iE.out⟩)
theorem iC (w:World) (z:Three l i j k) (d:Fam w0 w (QL l i j k q r b m t)) (y:t.Good m) (hp:1<=t.ph):Calls prog 76 #[.pointer (some ⟨b,0,none⟩),.pointer (some ⟨r,0,none⟩)] w (fun e w'=>e=.returned (.tuple #[])/\Fam w0 w' (QL l i j k q r b m (t.settle m))):=by
 have h4:=y.p4;have:t.ph=1\/t.ph=2\/t.ph=3\/t.ph=4:=by omega
 rcases this with e|e|e|e
 ·exact aGG w z d y e
 ·exact aGF w z d y e
 ·exact aGE w z d y e
 exact aGD w z d y e
end
end Go.Proofs.YthflghdaejbdkaaGreat
