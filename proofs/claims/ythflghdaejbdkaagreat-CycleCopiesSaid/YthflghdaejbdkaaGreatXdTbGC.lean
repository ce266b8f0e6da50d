/- Lemmas of this claim. -/
import Derived.Test.YthflghdaejbdkaaGreatXdTbG
import Derived.Test.YthflghdaejbdkaaGreatXdTbGood
import Derived.Test.YthflghdaejbdkaaGreatXdRObjQ
namespace Go.Proofs.YthflghdaejbdkaaGreat
open _root_.Go.Proofs.Tryz (prog)
open Go.RowKit Go.Maps
set_option maxHeartbeats 6400000
set_option maxRecDepth 100000
set_option linter.unusedVariables false
theorem aHZ (w:World):Calls prog 90 #[] w (fun e w'=>e=.returned (.pointer (some ⟨w.heap.size,0,none⟩))/\w'=w.alloc (.cells #[.slice none 0 0,.slice none 0 0,.int .i64 0,.int .i64 0,.slice none 0 0] 52)):=by
 refine aF fun R hR=>?_;go_in;go_wp2_with fail;exact hR.out _ _ ⟨rfl,rfl⟩
theorem aMy (w:World):aFq w (w.alloc (.cells #[.slice none 0 0,.slice none 0 0,.int .i64 0,.int .i64 0,.slice none 0 0] 52)) (TrA w.heap.size Tb.new):=
 ⟨(Only.refl [] w).alloc _,fun k=>k=w.heap.size\/(Value.slice none 0 0).ownBlock=some k\/(Value.slice none 0 0).ownBlock=some k\/(Value.slice none 0 0).ownBlock=some k,⟨.slice none 0 0,.slice none 0 0,.slice none 0 0,0,[],⟨⟨_,Row.new w _ _⟩,iF.nil _ _ _,aO.nil _ _,Bls.nil _ _,zQ.self _,⟨Nat.zero_le _,fun h=>by simp [Tb.new] at h⟩,fun g hg=>by (cases hg),fun g hg=>by (cases hg),fun e=>by (cases e)⟩,fun k=>Iff.rfl⟩,fun k hk=>by
  rcases hk with hk|hk|hk|hk
  ·omega
  ·cases hk
  ·cases hk
  cases hk⟩
theorem aMl:(prog.info? 48).map (fun i=>(i.zero,i.size,i.bytes))=some (some (.agg #[.int .i64 0,.int .i64 0,.int .i64 0]),3,24):=by kernel_rfl
theorem aHg {w:World} {ops:Array Oper} {rest:List Oper} {o:Oper} {a:Act} {Q:Exit->Act->World->Prop} (hgd:o.guard=none) (s x:Operand)
  (ho:o.op=.call { callee:=.builtin .append,args:=#[s,x],argTypes:=#[49,49] })
  (v:Value) (l:List En) (hs:a.eval s=v) (hown:iF w 48 0 v l)
  (bk U:Nat) (y:En) (hx:a.eval x=.slice (some ⟨bk,0,none⟩) 1 1) (hnews:Row w bk U (enC y)) (hbytes:l.length<=1000000)
  (h:∀ v' w',iF w' 48 0 v' (l ++ [y])->Only v.ownBlock.toList w w'->(v'.ownBlock=v.ownBlock\/v'.ownBlock=some w.heap.size)->wpList prog ops Q rest (a.put o.dst v') w'):wpList prog ops Q (o :: rest) a w:=by
 obtain ⟨i0,hi,hz0,hz1,hz2⟩:=info_parts aMl;refine bP hgd s x 49 ho 0 48 i0 _ 3 24 Tryz.underlying49 hi hz0 hz1 hz2 rfl (by decide) v l.length _ hs hown ⟨bk,0,none⟩ 1 1 (enC y) hx (by simp [enC])
  (fun j u hu=>?_) (fun u hu=>?_) (by simp only [maxLen];omega) (by omega) (Nat.zero_le _) (fun v' w' h1 h2 h3 h5=>h v' w' ?_ ?_ h5)
 ·rw [dG];exact hnews.cell _ (by rw [Nat.zero_add];exact hu)
 ·simp only [enC,List.mem_cons,List.not_mem_nil,or_false] at hu;rcases hu with rfl|rfl|rfl<;>rfl
 ·unfold iF;rw [List.length_append,yN];have:dB [y]=enC y:=by simp [dB]
  rw [this];exact h1
 exact (Only.refl _ _).grown h2 (fun k hk=>.inl (by rw [hk];simp))
section
variable {l:List Asn} {i j k q r b:Nat} {m:Mk} {t:Tb} {w0 w w':World} {ev qv wv:Value} {nx:Nat} {wl:List Bool}
theorem QL.aMb (h:Three l i j k) (hf:Fam w0 w (QL l i j k q r b m t)) (ht:kN w b ev qv wv nx wl t) {w2:World} {v':Value} {q':List Int} (he:aO w2 w.heap.size v' q') (ho:Only [] w w2) :
  w2.cell? ⟨b,1,none⟩=some qv/\w2.frozen? ⟨b,1,none⟩=false/\kN (w2.setCell ⟨b,1,none⟩ v') b ev v' wv nx wl ⟨t.ents,q',t.ph,t.nx,t.fd⟩/\Fam w0 (w2.setCell ⟨b,1,none⟩ v') (QL l i j k q r b m ⟨t.ents,q',t.ph,t.nx,t.fd⟩):=by
 have hbl:b<w.heap.size:=by obtain ⟨U,hr⟩:=ht.row;exact hr.lt
 have ht2:=ht.aN ho;have hs:Only [b] w2 (w2.setCell ⟨b,1,none⟩ v'):=(Only.refl _ w2).set (.inl (by simp)) _;obtain ⟨h1,h2,h3⟩:=ht2.rest hs;have hnb:∀ g,v'.ownBlock=some g->w.heap.size<=g:=fun g hg=>(he.own g hg).1;have hT:kN (w2.setCell ⟨b,1,none⟩ v') b ev v' wv nx wl ⟨t.ents,q',t.ph,t.nx,t.fd⟩:=
  ⟨ht2.row.imp fun U x=>x.set 1 _,h1,(he.base (Nat.zero_le _)).only hs (fun g hg=>by have:=hnb g hg;simp;omega),h3,ht.now,ht.two,fun g hg=>⟨(ht.n1 g hg).1,(ht.n1 g hg).2.1,fun e=>by have:=hnb g e;have:=(ht.ents.own g hg).2;omega⟩,fun g hg=>⟨by have:=hnb g hg;omega,fun e=>by have:=hnb g hg;have:=(ht.wh.own g e).2;omega⟩,ht.n3⟩
 refine ⟨ht2.cells.2.1,ht2.cells.2.2.2.2.2 1,hT,QL.trT h hf ht ev v' wv nx wl _ hT (fun x hx=>?_) ((ho.mono (G:=[b]) (by simp)).trans hs (by simp) |>.toP (fun x hx=>.inl (.inl (by simpa using hx))))⟩;rcases hx with hx|hx|hx|hx
 ·exact .inl (.inl hx)
 ·exact .inl (.inr (.inl hx))
 ·exact .inr (hnb x hx)
 exact .inl (.inr (.inr (.inr hx)))
theorem aNR (w:World) (T3:Three l i j k) (hf:Fam w0 w (QL l i j k q r b m t)) (hl:t.q.length<=1000000):Calls prog 147 #[.pointer (some ⟨b,0,none⟩)] w (fun e w'=>e=.returned (.tuple #[.int .i64 t.take.1,.int .i64 t.take.2.1])/\Fam w0 w' (QL l i j k q r b m t.take.2.2)):=by
 refine aF fun R hR=>?_;obtain ⟨ev,qv,wv,nx,wl,ht⟩:=QL.tr T3 hf;have HT:=aA ht;have HF:=aA hf;unfold Tb.take at hR
 cases e:t.q with
 | nil=>
  obtain ⟨z0,z1,z2,z3,z4,zf⟩:=ht.cells;rw [e] at hR;have hi:=ht.q;rw [e] at hi;obtain ⟨a,c,rfl⟩:=hi.len;clear ht hi hf;replace z1:w.cell? ⟨b,1,none⟩=some (.slice a 0 c):=z1;go_in;go_wp2_with fail;exact hR.out _ _ ⟨rfl,HF.out⟩
 | cons x rs=>
  rw [e] at hR hl;have hi:=ht.q;rw [e] at hi;obtain ⟨z0,z1,z2,z3,z4,zf⟩:=ht.cells;rcases hi.form with ⟨_,h0⟩|⟨g,cap,rfl,_,hgl,hlc,hc⟩
  ·cases h0
  have hc0:w.cell? ⟨g,0,none⟩=some (.int .i64 x):=hc 0 (by simp);have HRD:Hid (∀ k,k<rs.length->w.cell? ⟨g,1+k,none⟩=some (.int .i64 (gI rs k))):=fun k hk=>by
   have h4:=hc (k+1) (by simp;omega);rw [Nat.add_comm 1 k,h4];simp [gI]
  obtain ⟨n,hn⟩:∃ z,z=rs.length:=⟨_,rfl⟩;have HN:=aA hn;have hl2:n<=1000000:=by rw [hn];simp at hl;omega
  replace hlc:n+1<=cap:=by rw [hn];simpa using hlc
  replace z1:w.cell? ⟨b,1,none⟩=some (.slice (some ⟨g,0,none⟩) (n+1) cap):=by rw [hn];exact z1
  have z1a:(w.alloc (.cells #[] 3)).cell? ⟨b,1,none⟩=some (.slice (some ⟨g,0,none⟩) (n+1) cap):=by rw [World.cell?_alloc_past _ _ _ (World.block_lt_of_cell? w _ z1)];exact z1
  have hn1:((n:Int)+1 == 0)=false:=by rw [beq_eq_false_iff_ne];omega
  have hn2:(0:Int)<(n:Int)+1:=by omega
  clear ht hi hf hn hl hc z0 z2 z3 z4 zf
  by_cases hc1:cap=1
  ·subst hc1;obtain rfl:n=0:=by omega
   have hrs:rs=[]:=List.eq_nil_of_length_eq_zero HN.out.symm;subst hrs;replace z1:w.cell? ⟨b,1,none⟩=some (.slice (some ⟨g,0,none⟩) 1 1):=z1;replace z1a:(w.alloc (.cells #[] 3)).cell? ⟨b,1,none⟩=some (.slice (some ⟨g,0,none⟩) 1 1):=z1a;clear hn1 hn2;go_in;go_wp2_with (at_builtin;refine fQ rfl _ _ rfl w ((Only.refl _ _).alloc _) _ rfl (aO.made _) _ 0 _ [] rfl rfl (.inr ⟨_,_,rfl,rfl⟩) (by omega) ?c1)
   case c1=>
    intro g2 cap2 w1 hi ho;obtain ⟨y1,yf,_,hf2⟩:=QL.aMb T3 HF.out HT.out hi.out ho.out;have HF2:=aA hf2;clear hi ho hf2;go_wp2_with fail;exact hR.out _ _ ⟨rfl,HF2.out⟩
  have hc2:(cap=1)=False:=eq_false hc1;have hl3:(1:Int)<=((n+1:Nat):Int):=by omega
  have hl4:((n+1:Nat):Int)<=cap:=by omega
  go_in;go_wp2_with (at_builtin;refine fQ rfl _ _ rfl w ((Only.refl _ _).alloc _) _ rfl (aO.made _) (some ⟨g,1,none⟩) n _ rs rfl HN.out.symm (.inl ⟨g,1,_,by rw [HN.out],HRD.out⟩) hl2 ?c1)
  case c1=>
   intro g2 cap2 w1 hi ho;obtain ⟨y1,yf,_,hf2⟩:=QL.aMb T3 HF.out HT.out hi.out ho.out;have HF2:=aA hf2;clear hi ho hf2;go_wp2_with fail;exact hR.out _ _ ⟨rfl,HF2.out⟩
theorem kQ (w:World) (h:kN w b ev qv wv nx wl t) (hle:t.ents.length<=20) (kd n:Nat):Calls prog 152 #[.pointer (some ⟨b,0,none⟩),.int .i64 (kd:Int),.int .i64 (n:Int)] w (aK w (.tuple #[.int .i64 (if nxt t.ents kd n<t.ents.length then (nxt t.ents kd n:Int) else 0),.bool (decide (nxt t.ents kd n<t.ents.length))])):=by
 refine aF fun R hR=>?_;obtain ⟨z0,_⟩:=h.cells;have HE:=aA h.ents;obtain ⟨a,c,rfl⟩:=h.ents.len;clear h;go_in;go_wp2_with fail;go_loopw [8] (fun iv wr=>∃ x:Nat,n<=x/\iv=.int .i64 x/\nxt t.ents kd x=nxt t.ents kd n/\wr=w) (fun iv _=>t.ents.length - (intOf iv).toNat)
 case atStart=>exact ⟨n,Nat.le_refl _,rfl,rfl,rfl⟩
 case round=>
  obtain ⟨x,hx,rfl,hnx,rfl⟩:=hrel;have HNX:=aA hnx;clear hnx
  by_cases hlt:x<t.ents.length
  ·obtain ⟨g,cap,hv,_,_,c0,_,_,_⟩:=HE.out.at hlt;simp only [Value.slice.injEq,true_and] at hv;obtain ⟨rfl,rfl⟩:=hv;have hlt1:(x:Int)<(t.ents.length:Int):=by omega
   have hx0:(0:Int)<=x:=by omega
   by_cases hk:(eAt t.ents x).kind=(kd:Int)
   ·have hk1:((eAt t.ents x).kind == (kd:Int))=true:=by rw [hk];simp
    have hh:nxt t.ents kd n=x:=HNX.out.symm.trans (qJ hlt hk);rw [hh,if_pos hlt,decide_eq_true hlt] at hR;rw [hk] at c0;clear hk hk1 hh;generalize t.ents.length=len at*;go_wp2_with fail;exact hR.out _ _ ⟨rfl,rfl⟩
   have hk1:((eAt t.ents x).kind == (kd:Int))=false:=by rw [beq_eq_false_iff_ne];exact hk
   have HN2:Hid (nxt t.ents kd (x+1)=nxt t.ents kd n):=(aKM hk).symm.trans HNX.out;have h20:x<20:=by omega
   clear hk;generalize (eAt t.ents x).kind=kx at*;generalize hlen:t.ents.length=len at*;go_wp2_with fail;exact ⟨⟨x+1,by omega,by go_num,HN2.out,by first|rfl|trivial⟩,by simp [intOf];omega⟩
  have hlt1:¬ (x:Int)<(t.ents.length:Int):=by omega
  have hh:nxt t.ents kd n=t.ents.length:=HNX.out.symm.trans (aDH (by omega));rw [hh,if_neg (Nat.lt_irrefl _),decide_eq_false (Nat.lt_irrefl _)] at hR;clear hh;generalize t.ents.length=len at*;go_wp2_with fail;exact hR.out _ _ ⟨rfl,rfl⟩
theorem QL.aQU (T3:Three l i j k) (hf:Fam w0 w (QL l i j k q r b m t)) (ht:kN w b ev qv wv nx wl t) (hp:t.ph=0) {w2:World} {v':Value} {y:En} (he:iF w2 48 0 v' (t.ents ++ [y])) (ho:Only ev.ownBlock.toList w w2) (hb2:v'.ownBlock=ev.ownBlock\/∃ g,v'.ownBlock=some g/\w.heap.size<=g) :
  w2.cell? ⟨b,0,none⟩=some ev/\w2.frozen? ⟨b,0,none⟩=false/\Fam w0 (w2.setCell ⟨b,0,none⟩ v') (QL l i j k q r b m ⟨t.ents ++ [y],t.q,t.ph,t.nx,t.fd⟩):=by
 have hbl:b<w.heap.size:=by obtain ⟨U,hr⟩:=ht.row;exact hr.lt
 have hrow:∃ U,Row w2 b U [ev,qv,.int .i64 (t.ph:Int),.int .i64 (nx:Int),wv]:=ht.row.imp fun U x=>ho.row x (fun hm=>(ht.n1 b (jO hm)).1 rfl);have hP:aI (fun x=>x=b\/ev.ownBlock=some x) w (w2.setCell ⟨b,0,none⟩ v'):=((ho.toP (S:=fun x=>x=b\/ev.ownBlock=some x) (fun x hx=>.inl (.inr (jO hx))))).set (.inl (.inl rfl)) _;have hs:Only [b] w2 (w2.setCell ⟨b,0,none⟩ v'):=(Only.refl _ w2).set (.inl (by simp)) _;have hnb:∀ g,v'.ownBlock=some g->g≠b/\wv.ownBlock≠some g/\qv.ownBlock≠some g:=fun g hg=>by
  rcases hb2 with h|⟨g2,h,h2⟩
  ·exact ht.n1 g (by rw [<-h];exact hg)
  rw [h] at hg
  cases hg
  refine ⟨by omega,fun e=>?_,fun e=>?_⟩
  ·have:=(ht.wh.own _ e).2;omega
  have:=(ht.q.own _ e).2;omega
 obtain ⟨U,hr⟩:=hrow;refine ⟨hr.cell 0 rfl,hr.free 0,QL.trT T3 hf ht v' qv wv nx wl _ ⟨⟨U,hr.set 0 _⟩,he.only hs (fun x hx=>by have:=(hnb x hx).1;simpa using this),ht.q.bW hP (fun x hx=>?_),ht.wh.bW hP (fun x hx=>?_),⟨fun e=>absurd (show t.ph=1 from e) (by omega),fun e=>absurd (show t.ph=2 from e) (by omega),fun e=>absurd (show t.ph=4 from e) (by omega)⟩,⟨ht.two.1,fun e=>absurd (show t.ph=2 from e) (by omega)⟩,hnb,ht.n2,ht.n3⟩ (fun x hx=>?_) (hP.mono (fun x hx=>.inl ?_))⟩
 ·rintro (h|h)
  ·exact (ht.n2 x hx).1 h
  exact (ht.n1 x h).2.2 hx
 ·rintro (h|h)
  ·exact ht.n3 (by rw [<-h];exact hx)
  exact (ht.n1 x h).2.1 hx
 ·rcases hx with hx|hx|hx|hx
  ·exact .inl (.inl hx)
  ·rcases hb2 with h|⟨g2,h,h2⟩
   ·exact .inl (.inr (.inl (by rw [<-h];exact hx)))
   rw [h] at hx;cases hx;exact .inr h2
  ·exact .inl (.inr (.inr (.inl hx)))
  exact .inl (.inr (.inr (.inr hx)))
 rcases hx with hx|hx
 ·exact .inl hx
 exact .inr (.inl hx)
theorem aIc (w:World) (T3:Three l i j k) (hf:Fam w0 w (QL l i j k q r b m t)) (kd x g:Int):Calls prog 146 #[.pointer (some ⟨b,0,none⟩),.pointer (some ⟨r,0,none⟩),.int .i64 kd,.int .i64 x,.int .i64 g] w (fun e w'=>e=.returned (.tuple #[.int .i64 (t.add m kd x g).1,.int .i64 (t.add m kd x g).2.1])/\Fam w0 w' (QL l i j k q r b m (t.add m kd x g).2.2)):=by
 refine aF fun R hR=>?_;obtain ⟨ev,qv,wv,nx,wl,ht⟩:=QL.tr T3 hf;obtain ⟨z0,z1,z2,z3,z4,zf⟩:=ht.cells;have cc:=aAj w T3.t2 hf x;have HT:=aA ht;have HF:=aA hf;unfold Tb.add at hR;clear z1 z3 z4 zf
 by_cases h1:kd<1\/3<kd
 ·rw [if_pos h1] at hR;clear hf ht cc
  by_cases h2:kd<1
  ·clear h1;go_in;go_wp2_with fail;exact hR.out _ _ ⟨rfl,HF.out⟩
  have h3:=h1.resolve_left h2;clear h1;go_in;go_wp2_with fail;exact hR.out _ _ ⟨rfl,HF.out⟩
 rw [if_neg h1] at hR;have h2:¬ kd<1:=fun h=>h1 (.inl h);have h3:¬ 3<kd:=fun h=>h1 (.inr h);clear h1;have aDh:m.color x=if (m.M.ob x).isSome then (m.col x,0) else (0,3):=rfl
 by_cases hp:t.ph=0
 rotate_left
 ·rw [if_pos hp] at hR;have hp1:((t.ph:Int) != 0)=true:=by simp;omega
  clear hf ht aDh cc hp;generalize t.ph=ph at*;go_in;go_wp2_with fail;exact hR.out _ _ ⟨rfl,HF.out⟩
 rw [if_neg (fun h=>h hp)] at hR;have HP:=aA hp;rw [hp] at z2;replace z2:w.cell? ⟨b,2,none⟩=some (.int .i64 0):=z2
 cases hs:(m.M.ob x).isSome with
 | false=>
  rw [if_pos hs] at hR;rw [aDh,hs] at cc;clear hf ht aDh hp;go_in;go_wp2_with fail;refine cc.mono ?_;rintro e w1 ⟨rfl,ho⟩;have HF1:=aA (HF.out.aN ho);clear cc ho;go_wp2_with fail;exact hR.out _ _ ⟨rfl,HF1.out⟩
 | true=>
  rw [if_neg (by rw [hs];simp)] at hR;rw [aDh,hs] at cc;obtain ⟨a,c,hev⟩:=HT.out.ents.len;clear aDh hp hf ht
  by_cases hle:20<=t.ents.length
  ·rw [if_pos hle] at hR;have hl2:(20:Int)<=(t.ents.length:Int):=by omega
   subst hev;clear hle;generalize t.ents.length=len at*;go_in;go_wp2_with fail;refine cc.mono ?_;rintro e w1 ⟨rfl,ho⟩;have HF1:=aA (HF.out.aN ho);have y0:=ho.cell z0 (by simp);clear cc ho;go_wp2_with fail;exact hR.out _ _ ⟨rfl,HF1.out⟩
  rw [if_neg hle] at hR;have hl2:¬ (20:Int)<=(t.ents.length:Int):=by omega
  have HLM:Hid (t.ents.length<=1000000):=by show _<=_;omega
  subst hev;obtain ⟨len,hlen⟩:∃ n,n=t.ents.length:=⟨_,rfl⟩;rw [<-hlen] at hR hl2 z0;have HLEN:=aA hlen;clear hlen hle;go_in;go_wp2_with fail;refine cc.mono ?_;rintro e w1 ⟨rfl,ho⟩;have y0:=ho.cell z0 (by simp);have HF2:=aA (HF.out.aN ho);have HT2:=aA (HT.out.aN ho);clear cc ho;have HY:Hid (Row (w1.alloc (.cells #[.int .i64 kd,.int .i64 x,.int .i64 g] 48)) w1.heap.size 48 (enC ⟨kd,x,g⟩)):=Row.new w1 _ _;have HF3:=aA (HF2.out.alloc (.cells #[.int .i64 kd,.int .i64 x,.int .i64 g] 48));have HT3:=aA (HT2.out.aN ((Only.refl [] w1).alloc (.cells #[.int .i64 kd,.int .i64 x,.int .i64 g] 48)));go_wp2_with (at_builtin;refine aHg rfl _ _ rfl _ t.ents (by rw [<-HLEN.out];rfl) HT3.out.ents _ _ ⟨kd,x,g⟩ rfl HY.out (by have:=HLM.out;have:=HLEN.out;omega) ?_);intro v' w2 he ho hb2;have hb3:v'.ownBlock=(Value.slice a t.ents.length c).ownBlock\/∃ g2,v'.ownBlock=some g2/\(w1.alloc (.cells #[.int .i64 kd,.int .i64 x,.int .i64 g] 48)).heap.size<=g2:=hb2.imp id (fun h=>⟨_,h,by simp⟩);have hA:=QL.aQU T3 HF3.out HT3.out HP.out he ho hb3;obtain ⟨q1,q2,q3⟩:=hA;rw [<-HLEN.out] at q1;have HQ:=aA q3;have HL2:Hid ((t.ents ++ [⟨kd,x,g⟩]:List En).length=len+1):=by show _=_;rw [List.length_append,HLEN.out];rfl
  obtain ⟨a2,c2,hv2⟩:=he.len;rw [HL2.out] at hv2;subst hv2;clear he ho hb2 hb3 q3;have hnum:(len:Int)+1 - 1=len:=by omega
  go_wp2_with fail;exact hR.out _ _ ⟨rfl,HQ.out⟩
end
theorem Bls.setAt {w:World} {base g n cap:Nat} {l:List Bool} (h:Bls w base (.slice (some ⟨g,0,none⟩) n cap) l) (i:Nat) (y:Bool):Bls (w.setCell ⟨g,i,none⟩ (.bool y)) base (.slice (some ⟨g,0,none⟩) n cap) (l.set i y):=by
 rcases h.form with ⟨e,_⟩|⟨g2,cap2,e,_⟩
 ·cases e
 simp only [Value.slice.injEq,Option.some.injEq,Addr.mk.injEq] at e;obtain ⟨⟨rfl,_⟩,rfl,rfl⟩:=e;have h3:=(World.ownsRow.stored h i (.bool y)).1;unfold Bls;rw [List.length_set,List.map_set];exact h3
theorem Bls.ofRow {w:World} {base g:Nat} {l:List Bool} (hb:base<=g) (hr:Row w g 4 (l.map Value.bool)) (hm:l.length<=1000000):Bls w base (.slice (some ⟨g,0,none⟩) l.length l.length) l:=by
 refine ⟨by simp,.inr ⟨g,l.length,(l.map Value.bool).toArray,rfl,hb,hr,Nat.le_refl _,by simp only [maxLen];omega,by simp,?_⟩⟩;rw [Nat.mul_one];exact List.take_of_length_le (by simp)
section
variable {l:List Asn} {i j k q r b:Nat} {m:Mk} {t u:Tb} {w0 w w':World} {ev qv wv:Value} {nx:Nat} {wl:List Bool}
theorem QL.aPr (T3:Three l i j k) (hf:Fam w0 w (QL l i j k q r b m t)) (n:Nat) (h1:t.ph=1->nxt t.ents 1 n=nxt t.ents 1 t.nx) (h2:t.ph=2->nxt t.ents 2 n=nxt t.ents 2 t.nx) (h4:t.ph=4->nxt t.ents 3 n=nxt t.ents 3 t.nx):Fam w0 w (QL l i j k q r b m (t.at t.ph n)):=by
 obtain ⟨ev,qv,wv,nx,wl,ht⟩:=QL.tr T3 hf;exact QL.trT T3 hf ht ev qv wv nx wl _ ⟨ht.row,ht.ents,ht.q,ht.wh,⟨fun e=>(ht.now.1 e).trans (h1 e).symm,fun e=>(ht.now.2.1 e).trans (h2 e).symm,fun e=>(ht.now.2.2 e).trans (h4 e).symm⟩,ht.two,ht.n1,ht.n2,ht.n3⟩ (fun x hx=>.inl hx) (aI.refl _ _)
theorem QL.to4 (T3:Three l i j k) (hf:Fam w0 w (QL l i j k q r b m t)):Fam w0 ((w.setCell ⟨b,2,none⟩ (.int .i64 4)).setCell ⟨b,3,none⟩ (.int .i64 0)) (QL l i j k q r b m (t.zB 0)):=by
 obtain ⟨ev,qv,wv,nx,wl,ht⟩:=QL.tr T3 hf;have ho:Only [b] w ((w.setCell ⟨b,2,none⟩ (.int .i64 4)).setCell ⟨b,3,none⟩ (.int .i64 0)):=((Only.refl _ w).set (.inl (by simp)) _).set (.inl (by simp)) _;obtain ⟨h1,h2,h3⟩:=ht.rest ho;exact QL.trT T3 hf ht ev qv wv 0 wl _ ⟨ht.row.imp fun U x=>(x.set 2 _).set 3 _,h1,h2,h3,⟨fun e=>by simp [Tb.zB,Tb.at] at e,fun e=>by simp [Tb.zB,Tb.at] at e,fun _=>wU.symm⟩,⟨ht.two.1,fun e=>by simp [Tb.zB,Tb.at] at e⟩,ht.n1,ht.n2,ht.n3⟩ (fun x hx=>.inl hx) (ho.toP (fun x hx=>.inl (.inl (by simpa using hx))))
theorem QL.to3 (T3:Three l i j k) (hf:Fam w0 w (QL l i j k q r b m t)):Fam w0 (w.setCell ⟨b,2,none⟩ (.int .i64 3)) (QL l i j k q r b m (t.at 3 0)):=
 QL.aBJ T3 hf 3 (by omega) 0 (fun _ _ _ _ _ _=>⟨fun e=>by simp [Tb.at] at e,fun e=>by simp [Tb.at] at e,fun e=>by simp [Tb.at] at e⟩)
theorem QL.to2 (T3:Three l i j k) (hf:Fam w0 w (QL l i j k q r b m t)) (ht:kN w b ev qv wv nx wl t) (hl:wl.length=t.ents.length) (hw:∀ i,i<t.ents.length->gB wl i=m.isW (eAt t.ents i).tgt):Fam w0 ((w.setCell ⟨b,2,none⟩ (.int .i64 2)).setCell ⟨b,3,none⟩ (.int .i64 0)) (QL l i j k q r b m ((t.find m).at 2 0)):=by
 have ho:Only [b] w ((w.setCell ⟨b,2,none⟩ (.int .i64 2)).setCell ⟨b,3,none⟩ (.int .i64 0)):=((Only.refl _ w).set (.inl (by simp)) _).set (.inl (by simp)) _;obtain ⟨h1,h2,h3⟩:=ht.rest ho;refine QL.trT T3 hf ht ev qv wv 0 wl _ ⟨ht.row.imp fun U x=>(x.set 2 _).set 3 _,h1,h2,h3,zQ.self _,⟨ht.two.1,fun _=>⟨hl,fun i hi hk=>?_⟩⟩,ht.n1,ht.n2,ht.n3⟩ (fun x hx=>.inl hx) (ho.toP (fun x hx=>.inl (.inl (by simpa using hx))));show gB wl i=(decide ((eAt t.ents i).kind=2) && m.isW (eAt t.ents i).tgt);replace hk:(eAt t.ents i).kind=2:=hk;rw [hk,hw i hi];rfl
theorem QL.mkW (T3:Three l i j k) (hf:Fam w0 w (QL l i j k q r b m t)) (ht:kN w b ev qv wv nx wl t) (hp:t.ph≠2) {C:Array Value} {n:Nat} (hn:n<=20) (hC:C.toList=(List.replicate n false).map Value.bool) :
  kN ((w.alloc (.cells C 4)).setCell ⟨b,4,none⟩ (.slice (some ⟨w.heap.size,0,none⟩) n n)) b ev qv (.slice (some ⟨w.heap.size,0,none⟩) n n) nx (List.replicate n false) t/\Fam w0 ((w.alloc (.cells C 4)).setCell ⟨b,4,none⟩ (.slice (some ⟨w.heap.size,0,none⟩) n n)) (QL l i j k q r b m t):=by
 have hbl:b<w.heap.size:=by obtain ⟨U,hr⟩:=ht.row;exact hr.lt
 have ho1:Only [] w (w.alloc (.cells C 4)):=(Only.refl [] w).alloc _;have ho:Only [b] (w.alloc (.cells C 4)) ((w.alloc (.cells C 4)).setCell ⟨b,4,none⟩ (.slice (some ⟨w.heap.size,0,none⟩) n n)):=(Only.refl _ _).set (.inl (by simp)) _;have ht1:=ht.aN ho1;obtain ⟨h1,h2,h3⟩:=ht1.rest ho;have hr:Row (w.alloc (.cells C 4)) w.heap.size 4 ((List.replicate n false).map Value.bool):=by rw [<-hC];exact Row.new w 4 C.toList
 have hB:Bls (w.alloc (.cells C 4)) 0 (.slice (some ⟨w.heap.size,0,none⟩) n n) (List.replicate n false):=by
  have:=Bls.ofRow (Nat.zero_le _) hr (by simp;omega);rwa [List.length_replicate] at this
 have hg9:∀ g,(Value.slice (some ⟨w.heap.size,0,none⟩) n n).ownBlock=some g->g=w.heap.size:=fun g hg=>by
  have:w.heap.size=g:=by simpa [Value.ownBlock] using hg
  exact this.symm
 have hT:kN ((w.alloc (.cells C 4)).setCell ⟨b,4,none⟩ (.slice (some ⟨w.heap.size,0,none⟩) n n)) b ev qv (.slice (some ⟨w.heap.size,0,none⟩) n n) nx (List.replicate n false) t:=
  ⟨ht1.row.imp fun U x=>x.set 4 _,h1,h2,hB.only ho (fun g hg=>by have:=hg9 g hg;simp;omega),ht.now,⟨by simp;omega,fun e=>absurd e hp⟩,fun g hg=>⟨(ht.n1 g hg).1,fun e=>by have:=hg9 g e;have:=(ht.ents.own _ hg).2;omega,(ht.n1 g hg).2.2⟩,fun g hg=>⟨(ht.n2 g hg).1,fun e=>by have:=hg9 g e;have:=(ht.q.own _ hg).2;omega⟩,fun e=>by have:=hg9 b e;omega⟩
 refine ⟨hT,QL.trT T3 hf ht ev qv _ nx _ _ hT (fun x hx=>?_) ((ho1.mono (G:=[b]) (by simp)).trans ho (by simp) |>.toP (fun x hx=>.inl (.inl (by simpa using hx))))⟩;rcases hx with hx|hx|hx|hx
 ·exact .inl (.inl hx)
 ·exact .inl (.inr (.inl hx))
 ·exact .inl (.inr (.inr (.inl hx)))
 cases hx;exact .inr (Nat.le_refl _)
theorem QL.aSe (T3:Three l i j k) (hf:Fam w0 w (QL l i j k q r b m t)) {wg n c:Nat} (ht:kN w b ev qv (.slice (some ⟨wg,0,none⟩) n c) nx wl t) (hp:t.ph≠2) (x:Nat) (y:Bool) :
  kN (w.setCell ⟨wg,x,none⟩ (.bool y)) b ev qv (.slice (some ⟨wg,0,none⟩) n c) nx (wl.set x y) t/\Fam w0 (w.setCell ⟨wg,x,none⟩ (.bool y)) (QL l i j k q r b m t):=by
 have ho:Only [wg] w (w.setCell ⟨wg,x,none⟩ (.bool y)):=(Only.refl _ w).set (.inl (by simp)) _;have hT:kN (w.setCell ⟨wg,x,none⟩ (.bool y)) b ev qv (.slice (some ⟨wg,0,none⟩) n c) nx (wl.set x y) t:=
  ⟨ht.row.imp fun U z=>ho.row z (fun e=>ht.n3 (by simp at e;rw [e];rfl)),ht.ents.only ho (fun g hg e=>(ht.n1 g hg).2.1 (by simp at e;rw [e];rfl)),ht.q.only ho (fun g hg e=>(ht.n2 g hg).2 (by simp at e;rw [e];rfl)),ht.wh.setAt x y,ht.now,⟨by rw [List.length_set];exact ht.two.1,fun e=>absurd e hp⟩,ht.n1,ht.n2,ht.n3⟩
 exact ⟨hT,QL.trT T3 hf ht ev qv _ nx _ _ hT (fun x hx=>.inl hx) (ho.toP (fun x hx=>.inl (.inr (.inr (.inr (by simp at hx;rw [hx];rfl))))))⟩
theorem aFF (w:World) (T3:Three l i j k) (hf:Fam w0 w (QL l i j k q r b m t)) (hg:t.Good m) (hp:t.ph=4):Calls prog 76 #[.pointer (some ⟨b,0,none⟩),.pointer (some ⟨r,0,none⟩)] w (fun e w'=>e=.returned (.tuple #[])/\Fam w0 w' (QL l i j k q r b m (t.settle m))):=by
 refine aF fun R hR=>?_;obtain ⟨ev,qv,wv,nx,wl,ht⟩:=QL.tr T3 hf;obtain ⟨_,_,x2,_,_,_⟩:=ht.cells;replace x2:w.cell? ⟨b,2,none⟩=some (.int .i64 4):=by rw [x2,hp];rfl
 have gU:Hid (Fam w0 w (QL l i j k q r b m (t.settle m))):=by
  show Fam _ _ _;have e:t.settle m=t.at t.ph (nxt t.ents 3 t.nx):=by unfold Tb.settle;rw [if_neg (by omega),if_neg (by omega),if_neg (by omega),if_pos hp];unfold Tb.zB;rw [hp]
  rw [e];exact QL.aPr T3 hf _ (fun e=>absurd e (by omega)) (fun e=>absurd e (by omega)) (fun e=>wU)
 clear hf hg ht hp;go_in;go_wp2_with fail
 first
 | (refine bodyPost_ret (results_none rfl _ _ _) rfl ?_;exact hR.out _ _ ⟨rfl,gU.out⟩)
 | exact hR.out _ _ ⟨rfl,gU.out⟩
 | (go_end0;exact hR.out _ _ ⟨rfl,gU.out⟩)
theorem aFG (w:World) (T3:Three l i j k) (hf:Fam w0 w (QL l i j k q r b m t)) (hg:t.Good m) (hp:t.ph=3):Calls prog 76 #[.pointer (some ⟨b,0,none⟩),.pointer (some ⟨r,0,none⟩)] w (fun e w'=>e=.returned (.tuple #[])/\Fam w0 w' (QL l i j k q r b m (t.settle m))):=by
 refine aF fun R hR=>?_;have HF3:=aA hf;have aPh:=aA hp;have hz:=hg.z3 hp;have aPl:Hid (Fam w0 w (QL l i j k q r b m (t.at 3 0))):=by
  show Fam _ _ _;have e:t.at 3 0=t:=by unfold Tb.at;rw [<-hp,<-hz]
  rw [e];exact hf
 have HS3:Hid (t.rJ m=t.settle m):=by show _=_;unfold Tb.settle;rw [if_neg (by omega),if_neg (by omega),if_pos hp]
 clear hf hg hp hz;go_in;obtain ⟨ev3,qv3,wv3,nx3,wl3,ht3⟩:=QL.tr T3 HF3.out;obtain ⟨_,_,x2,x3,_,xf⟩:=ht3.cells;replace x2:(w).cell? ⟨b,2,none⟩=some (.int .i64 3):=by rw [x2,aPh.out];rfl
 have xf2:=xf 2;have xf3:=xf 3;have cd:=jT (w) T3.t2 HF3.out;have HF4:=aA (QL.to4 T3 HF3.out);clear ht3 xf
 by_cases hl:m.list=[]
 ·have gU:Hid (Fam w0 (((w).setCell ⟨b,2,none⟩ (.int .i64 4)).setCell ⟨b,3,none⟩ (.int .i64 0)) (QL l i j k q r b m (t.settle m))):=by
   show Fam _ _ _;rw [<-HS3.out];unfold Tb.rJ;rw [if_pos hl];exact HF4.out
  rw [decide_eq_true hl] at cd;clear hl HF3 HF4;go_wp2_with fail;refine cd.mono ?_;rintro e _ ⟨rfl,rfl⟩;clear cd;go_wp2_with fail
  first
  | (refine bodyPost_ret (results_none rfl _ _ _) rfl ?_;exact hR.out _ _ ⟨rfl,gU.out⟩)
  | exact hR.out _ _ ⟨rfl,gU.out⟩
  | (go_end0;exact hR.out _ _ ⟨rfl,gU.out⟩)
 have gU:Hid (Fam w0 (w) (QL l i j k q r b m (t.settle m))):=by
  show Fam _ _ _;rw [<-HS3.out];unfold Tb.rJ;rw [if_neg hl];exact aPl.out
 rw [decide_eq_false hl] at cd;clear hl HF3 HF4;go_wp2_with fail;refine cd.mono ?_;rintro e _ ⟨rfl,rfl⟩;clear cd;go_wp2_with fail
 first
 | (refine bodyPost_ret (results_none rfl _ _ _) rfl ?_;exact hR.out _ _ ⟨rfl,gU.out⟩)
 | exact hR.out _ _ ⟨rfl,gU.out⟩
 | (go_end0;exact hR.out _ _ ⟨rfl,gU.out⟩)
theorem aFH (w:World) (T3:Three l i j k) (hf:Fam w0 w (QL l i j k q r b m t)) (hg:t.Good m) (hp:t.ph=2):Calls prog 76 #[.pointer (some ⟨b,0,none⟩),.pointer (some ⟨r,0,none⟩)] w (fun e w'=>e=.returned (.tuple #[])/\Fam w0 w' (QL l i j k q r b m (t.settle m))):=by
 refine aF fun R hR=>?_;have HF2:=aA hf;have aJO:=aA hp;have aNM:=aA hg.b.le;have HS2:Hid (t.set2 m t.nx=t.settle m):=by show _=_;unfold Tb.settle;rw [if_neg (by omega),if_pos hp]
 clear hf hg hp;go_in;obtain ⟨ev2,qv2,wv2,nx2,wl2,ht2⟩:=QL.tr T3 HF2.out;obtain ⟨_,_,x2,x3,_,xf⟩:=ht2.cells;replace x2:(w).cell? ⟨b,2,none⟩=some (.int .i64 2):=by rw [x2,aJO.out];rfl
 have cl:Calls prog 152 #[.pointer (some ⟨b,0,none⟩),.int .i64 2,.int .i64 (nx2:Int)] (w) _:=kQ (w) ht2 aNM.out 2 nx2;have hnw:=ht2.now.2.1 aJO.out;have hnn:nxt (t).ents ((2:Nat):Int) nx2=nxt (t).ents 2 (t).nx:=hnw;rw [hnn] at cl;have xf2:=xf 2;clear ht2 xf hnw hnn
 by_cases hm2:nxt (t).ents 2 (t).nx<(t).ents.length
 ·as_aux_lemma=>
  have gU:Hid (Fam w0 (w) (QL l i j k q r b m (t.settle m))):=by
   show Fam _ _ _;rw [<-HS2.out];unfold Tb.set2;rw [if_pos hm2,<-aJO.out];exact QL.aPr T3 HF2.out _ (fun e=>absurd e (by rw [aJO.out];decide)) (fun e=>wU) (fun e=>absurd e (by rw [aJO.out];decide))
  rw [if_pos hm2,decide_eq_true hm2] at cl;clear hm2 HF2;go_wp2_with fail;refine cl.mono ?_;rintro e _ ⟨rfl,rfl⟩;clear cl;go_wp2_with fail
  first
  | (refine bodyPost_ret (results_none rfl _ _ _) rfl ?_;exact hR.out _ _ ⟨rfl,gU.out⟩)
  | exact hR.out _ _ ⟨rfl,gU.out⟩
  | (go_end0;exact hR.out _ _ ⟨rfl,gU.out⟩)
 ·as_aux_lemma=>
  have HF3:=aA (QL.to3 T3 HF2.out);have aPl:=aA (QL.to3 T3 HF2.out);have aPh:Hid (((t).at 3 0).ph=3):=rfl;have HS3:Hid ((t).rJ m=t.settle m):=by
   show _=_;rw [<-HS2.out];unfold Tb.set2;rw [if_neg hm2]
  rw [if_neg hm2,decide_eq_false hm2] at cl;clear hm2 HF2 HS2;go_wp2_with fail;refine cl.mono ?_;rintro e _ ⟨rfl,rfl⟩;clear cl x3;obtain ⟨ev3,qv3,wv3,nx3,wl3,ht3⟩:=QL.tr T3 HF3.out;obtain ⟨_,_,x2,x3,_,xf⟩:=ht3.cells;replace x2:((w).setCell ⟨b,2,none⟩ (.int .i64 3)).cell? ⟨b,2,none⟩=some (.int .i64 3):=by rw [x2,aPh.out];rfl
  have xf2:=xf 2;have xf3:=xf 3;have cd:=jT ((w).setCell ⟨b,2,none⟩ (.int .i64 3)) T3.t2 HF3.out;have HF4:=aA (QL.to4 T3 HF3.out);clear ht3 xf
  by_cases hl:m.list=[]
  ·have gU:Hid (Fam w0 ((((w).setCell ⟨b,2,none⟩ (.int .i64 3)).setCell ⟨b,2,none⟩ (.int .i64 4)).setCell ⟨b,3,none⟩ (.int .i64 0)) (QL l i j k q r b m (t.settle m))):=by
    show Fam _ _ _;rw [<-HS3.out];unfold Tb.rJ;rw [if_pos hl];exact HF4.out
   rw [decide_eq_true hl] at cd;clear hl HF3 HF4;go_wp2_with fail;refine cd.mono ?_;rintro e _ ⟨rfl,rfl⟩;clear cd;go_wp2_with fail
   first
   | (refine bodyPost_ret (results_none rfl _ _ _) rfl ?_;exact hR.out _ _ ⟨rfl,gU.out⟩)
   | exact hR.out _ _ ⟨rfl,gU.out⟩
   | (go_end0;exact hR.out _ _ ⟨rfl,gU.out⟩)
  have gU:Hid (Fam w0 ((w).setCell ⟨b,2,none⟩ (.int .i64 3)) (QL l i j k q r b m (t.settle m))):=by
   show Fam _ _ _;rw [<-HS3.out];unfold Tb.rJ;rw [if_neg hl];exact aPl.out
  rw [decide_eq_false hl] at cd;clear hl HF3 HF4;go_wp2_with fail;refine cd.mono ?_;rintro e _ ⟨rfl,rfl⟩;clear cd;go_wp2_with fail
  first
  | (refine bodyPost_ret (results_none rfl _ _ _) rfl ?_;exact hR.out _ _ ⟨rfl,gU.out⟩)
  | exact hR.out _ _ ⟨rfl,gU.out⟩
  | (go_end0;exact hR.out _ _ ⟨rfl,gU.out⟩)
theorem aFI (w:World) (T3:Three l i j k) (hf:Fam w0 w (QL l i j k q r b m t)) (hg:t.Good m) (hp:t.ph=1):Calls prog 76 #[.pointer (some ⟨b,0,none⟩),.pointer (some ⟨r,0,none⟩)] w (fun e w'=>e=.returned (.tuple #[])/\Fam w0 w' (QL l i j k q r b m (t.settle m))):=by
 refine aF fun R hR=>?_;obtain ⟨ev,qv,wv,nx,wl,ht⟩:=QL.tr T3 hf;obtain ⟨x0,_,x2,x3,x4,xf⟩:=ht.cells;replace x2:w.cell? ⟨b,2,none⟩=some (.int .i64 1):=by rw [x2,hp];rfl
 have cl:Calls prog 152 #[.pointer (some ⟨b,0,none⟩),.int .i64 1,.int .i64 (nx:Int)] w _:=kQ w ht hg.b.le 1 nx;have hnn:nxt t.ents ((1:Nat):Int) nx=nxt t.ents 1 t.nx:=ht.now.1 hp;rw [hnn] at cl;have HF1:=aA hf;have HT1:=aA ht;have aNL:=aA hp;have aNM:=aA hg.b.le;have xf4:=xf 4;clear hf ht hg hnn hp xf
 by_cases hm1:nxt t.ents 1 t.nx<t.ents.length
 ·as_aux_lemma=>
  have gU:Hid (Fam w0 w (QL l i j k q r b m (t.settle m))):=by
   show Fam _ _ _;unfold Tb.settle;rw [if_pos aNL.out];unfold Tb.set1;rw [if_pos hm1,<-aNL.out];exact QL.aPr T3 HF1.out _ (fun e=>wU) (fun e=>absurd e (by rw [aNL.out];decide)) (fun e=>absurd e (by rw [aNL.out];decide))
  rw [if_pos hm1,decide_eq_true hm1] at cl;clear hm1 HF1 HT1;go_in;go_wp2_with fail;refine cl.mono ?_;rintro e _ ⟨rfl,rfl⟩;clear cl;go_wp2_with fail
  first
  | (refine bodyPost_ret (results_none rfl _ _ _) rfl ?_;exact hR.out _ _ ⟨rfl,gU.out⟩)
  | exact hR.out _ _ ⟨rfl,gU.out⟩
  | (go_end0;exact hR.out _ _ ⟨rfl,gU.out⟩)
 have HS1:Hid (((t.find m).at 2 0).set2 m ((t.find m).at 2 0).nx=t.settle m):=by
  show _=_;unfold Tb.settle;rw [if_pos aNL.out];unfold Tb.set1;rw [if_neg hm1];rfl
 rw [if_neg hm1,decide_eq_false hm1] at cl;obtain ⟨a,c,hev⟩:=HT1.out.ents.len;obtain ⟨n,hn⟩:∃ z,z=t.ents.length:=⟨_,rfl⟩;have HN:=aA hn;rw [<-hn] at hev;subst hev;have h20:n<=20:=by rw [hn];exact aNM.out
 obtain ⟨C,hC,hmk⟩:=aKR n (by omega);have hW:=QL.mkW T3 HF1.out HT1.out (by rw [aNL.out];decide) h20 hC;have HTW:=aA hW.1;have HFW:=aA hW.2;have x4a:(w.alloc (.cells C 4)).cell? ⟨b,4,none⟩=some wv:=by rw [World.cell?_alloc_past _ _ _ (World.block_lt_of_cell? w _ x4)];exact x4
 have aSa:(w.alloc (.cells C 4)).frozen? ⟨b,4,none⟩=false:=(HT1.out.aN ((Only.refl [] w).alloc _)).cells.2.2.2.2.2 4;clear hm1 HF1 HT1 hn hC hW x4 xf4;go_in;go_wp2_with fail;refine cl.mono ?_;rintro e _ ⟨rfl,rfl⟩;clear cl;go_wp2_with fail;generalize ((w.alloc (.cells C 4)).setCell ⟨b,4,none⟩ (.slice (some ⟨w.heap.size,0,none⟩) n n))=w1 at*;generalize w.heap.size=wg at*;clear hmk x4a aSa x0 x2 x3;go_loopw [6] (fun iv wr=>∃ (x:Nat) (wl:List Bool),x<=n/\iv=.int .i64 x/\Fam w0 wr (QL l i j k q r b m t)/\kN wr b (.slice a n c) qv (.slice (some ⟨wg,0,none⟩) n n) nx wl t/\Hid (wl.length=n/\∀ y,y<x->gB wl y=m.isW (eAt t.ents y).tgt)) (fun iv _=>n - (intOf iv).toNat)
 case atStart=>exact ⟨0,_,by omega,rfl,HFW.out,HTW.out,⟨List.length_replicate,fun y hy=>by omega⟩⟩
 case round=>as_aux_lemma=>
  clear HFW HTW;obtain ⟨x,wl,hx,rfl,hf,ht,HWL⟩:=hrel;obtain ⟨x0,_,_,_,x4,_⟩:=ht.cells;have HF:=aA hf;have HT:=aA ht;clear hf
  by_cases hlt:x<n
  ·as_aux_lemma=>
   have hlt1:(x:Int)<(n:Int):=by omega
   have hx0:(0:Int)<=x:=by omega
   obtain ⟨g,cap,hv,_,_,_,c1,_,_⟩:=ht.ents.at (i:=x) (by rw [<-HN.out];exact hlt);rw [<-HN.out] at hv;simp only [Value.slice.injEq,true_and] at hv;obtain ⟨rfl,rfl⟩:=hv;have HP:Hid (∀ w8,Only [] wr.drew w8->w8.cell? ⟨b,4,none⟩=some (.slice (some ⟨wg,0,none⟩) n n)/\w8.cell? ⟨b,0,none⟩=some (.slice (some ⟨g,0,none⟩) n c)/\w8.cell? ⟨g,x*3+1,none⟩=some (.int .i64 (eAt t.ents x).tgt)/\w8.frozen? ⟨wg,x,none⟩=false/\(∃ u,w8.cell? ⟨wg,x,none⟩=some u)/\∃ wl',kN (w8.setCell ⟨wg,x,none⟩ (.bool (m.isW (eAt t.ents x).tgt))) b (.slice (some ⟨g,0,none⟩) n c) qv (.slice (some ⟨wg,0,none⟩) n n) nx wl' t/\Fam w0 (w8.setCell ⟨wg,x,none⟩ (.bool (m.isW (eAt t.ents x).tgt))) (QL l i j k q r b m t)/\(wl'.length=n/\∀ y,y<x+1->gB wl' y=m.isW (eAt t.ents y).tgt)/\(w8.setCell ⟨wg,x,none⟩ (.bool (m.isW (eAt t.ents x).tgt))).cell? ⟨g,x*3+1,none⟩=some (.int .i64 (eAt t.ents x).tgt)):=fun w8 ho=>by
    have ho8:Only [] wr w8:=((Only.refl [] wr).drew).trans ho (by simp);have ht8:=HT.out.aN ho8;have hf8:=HF.out.aN ho8;obtain ⟨hT,hF⟩:=QL.aSe T3 hf8 ht8 (by rw [aNL.out];decide) x (m.isW (eAt t.ents x).tgt);obtain ⟨hw1,hw2⟩:=HWL.out;have hwh:w8.ownsRow 0 4 1 (.slice (some ⟨wg,0,none⟩) n n) n (wl.map Value.bool):=by have:=ht8.wh;unfold Bls at this;rw [hw1] at this;exact this
    rcases ht8.wh.form with ⟨e,_⟩|⟨g2,cap2,e,_,_,_,hc⟩
    ·cases e
    simp only [Value.slice.injEq,Option.some.injEq,Addr.mk.injEq] at e;obtain ⟨⟨rfl,_⟩,_,_⟩:=e;obtain ⟨g3,cap3,e3,_,_,_,d1,_,_⟩:=hT.ents.at (i:=x) (by rw [<-HN.out];exact hlt);simp only [Value.slice.injEq,Option.some.injEq,Addr.mk.injEq] at e3;obtain ⟨⟨rfl,_⟩,_,_⟩:=e3;refine ⟨ht8.cells.2.2.2.2.1,ht8.cells.1,ho8.cell c1 (by simp),World.ownsRow.frozenAt hwh x,⟨_,hc x (by rw [hw1];exact hlt)⟩,_,hT,hF,⟨by rw [List.length_set];exact hw1,fun y hy=>?_⟩,d1⟩;rw [aOR (by rw [hw1];exact hlt)]
    by_cases e:y=x
    ·rw [if_pos e,e]
    rw [if_neg e];exact hw2 y (by omega)
   have HCW:Hid (Calls prog 161 #[.pointer (some ⟨r,0,none⟩),.int .i64 (eAt t.ents x).tgt] wr.drew (fun e w'=>e=.returned (.bool (m.isW (eAt t.ents x).tgt))/\Only [] wr.drew w')):=wI wr.drew T3.t2 HF.out.drew _;clear ht HF HT HWL;generalize m.isW (eAt t.ents x).tgt=wt at*;generalize (eAt t.ents x).tgt=tg at*;go_wp2_with fail;go_region_held3 (fun w'=>w'.cell? ⟨b,4,none⟩=some (.slice (some ⟨wg,0,none⟩) n n)/\w'.cell? ⟨b,0,none⟩=some (.slice (some ⟨g,0,none⟩) n c)/\w'.cell? ⟨g,x*3+1,none⟩=some (.int .i64 tg))
    (first|(exact ⟨x4,x0,c1⟩)|(exact ⟨k4,k0,k1⟩)|(exact ⟨q4,q0,q1⟩))
    (first|(go_at_call 161;refine HCW.out.mono ?_;rintro e w8 ⟨rfl,ho8⟩;obtain ⟨k4,k0,k1,kf,⟨ku,kc⟩,wl',hT8,hrest⟩:=HP.out w8 ho8;obtain ⟨q0,_,_,_,q4,_⟩:=hT8.cells;have q1:=hrest.2.2;have HT8:=aA hT8;have HR8:=aA hrest;clear hT8 hrest ho8))
   have hr8:=HR8.out;have HF9:=aA hr8.1;have HW9:Hid (wl'.length=n/\∀ y,y<x+1->gB wl' y=m.isW (eAt t.ents y).tgt):=hr8.2.1;clear hr8 HR8 q1 q0 q4 k4 k0 k1 kf kc;go_wp2_with fail;exact ⟨⟨x+1,wl',by omega,by go_num,HF9.out,HT8.out,HW9.out⟩,by simp [intOf];omega⟩
  obtain rfl:x=n:=by omega
  have hlt1:¬ (x:Int)<(x:Int):=by omega
  have HF2:Hid (Fam w0 ((wr.setCell ⟨b,2,none⟩ (.int .i64 2)).setCell ⟨b,3,none⟩ (.int .i64 0)) (QL l i j k q r b m ((t.find m).at 2 0))):=
   QL.to2 T3 HF.out HT.out (by rw [HWL.out.1];exact HN.out) (fun y hy=>HWL.out.2 y (by rw [HN.out];exact hy))
  have aJO:Hid (((t.find m).at 2 0).ph=2):=rfl;have HS2:=HS1;replace aNM:Hid (((t.find m).at 2 0).ents.length<=20):=aNM.out;have xf2:=ht.cells.2.2.2.2.2 2;have xf3:=ht.cells.2.2.2.2.2 3;have x2:=ht.cells.2.2.1;have x3:=ht.cells.2.2.2.1;clear ht HF HT HWL HS1 hlt;go_upto_region 10 with fail;clear x0 x4 x2 x3 xf2 xf3;generalize (wr.setCell ⟨b,2,none⟩ (.int .i64 2)).setCell ⟨b,3,none⟩ (.int .i64 0)=w2 at*;obtain ⟨ev2,qv2,wv2,nx2,wl2,ht2⟩:=QL.tr T3 HF2.out;obtain ⟨_,_,x2,x3,_,xf⟩:=ht2.cells;replace x2:(w2).cell? ⟨b,2,none⟩=some (.int .i64 2):=by rw [x2,aJO.out];rfl
  have cl:Calls prog 152 #[.pointer (some ⟨b,0,none⟩),.int .i64 2,.int .i64 (nx2:Int)] (w2) _:=kQ (w2) ht2 aNM.out 2 nx2;have hnw:=ht2.now.2.1 aJO.out;have hnn:nxt ((t.find m).at 2 0).ents ((2:Nat):Int) nx2=nxt ((t.find m).at 2 0).ents 2 ((t.find m).at 2 0).nx:=hnw;rw [hnn] at cl;have xf2:=xf 2;clear ht2 xf hnw hnn
  by_cases hm2:nxt ((t.find m).at 2 0).ents 2 ((t.find m).at 2 0).nx<((t.find m).at 2 0).ents.length
  ·as_aux_lemma=>
   have gU:Hid (Fam w0 (w2) (QL l i j k q r b m (t.settle m))):=by
    show Fam _ _ _;rw [<-HS2.out];unfold Tb.set2;rw [if_pos hm2,<-aJO.out];exact QL.aPr T3 HF2.out _ (fun e=>absurd e (by rw [aJO.out];decide)) (fun e=>wU) (fun e=>absurd e (by rw [aJO.out];decide))
   rw [if_pos hm2,decide_eq_true hm2] at cl;clear hm2 HF2;go_wp2_with fail;refine cl.mono ?_;rintro e _ ⟨rfl,rfl⟩;clear cl;go_wp2_with fail
   first
   | (refine bodyPost_ret (results_none rfl _ _ _) rfl ?_;exact hR.out _ _ ⟨rfl,gU.out⟩)
   | exact hR.out _ _ ⟨rfl,gU.out⟩
   | (go_end0;exact hR.out _ _ ⟨rfl,gU.out⟩)
  ·as_aux_lemma=>
   have HF3:=aA (QL.to3 T3 HF2.out);have aPl:=aA (QL.to3 T3 HF2.out);have aPh:Hid ((((t.find m).at 2 0).at 3 0).ph=3):=rfl;have HS3:Hid (((t.find m).at 2 0).rJ m=t.settle m):=by
    show _=_;rw [<-HS2.out];unfold Tb.set2;rw [if_neg hm2]
   rw [if_neg hm2,decide_eq_false hm2] at cl;clear hm2 HF2 HS2;go_wp2_with fail;refine cl.mono ?_;rintro e _ ⟨rfl,rfl⟩;clear cl x3;obtain ⟨ev3,qv3,wv3,nx3,wl3,ht3⟩:=QL.tr T3 HF3.out;obtain ⟨_,_,x2,x3,_,xf⟩:=ht3.cells;replace x2:((w2).setCell ⟨b,2,none⟩ (.int .i64 3)).cell? ⟨b,2,none⟩=some (.int .i64 3):=by rw [x2,aPh.out];rfl
   have xf2:=xf 2;have xf3:=xf 3;have cd:=jT ((w2).setCell ⟨b,2,none⟩ (.int .i64 3)) T3.t2 HF3.out;have HF4:=aA (QL.to4 T3 HF3.out);clear ht3 xf
   by_cases hl:m.list=[]
   ·have gU:Hid (Fam w0 ((((w2).setCell ⟨b,2,none⟩ (.int .i64 3)).setCell ⟨b,2,none⟩ (.int .i64 4)).setCell ⟨b,3,none⟩ (.int .i64 0)) (QL l i j k q r b m (t.settle m))):=by
     show Fam _ _ _;rw [<-HS3.out];unfold Tb.rJ;rw [if_pos hl];exact HF4.out
    rw [decide_eq_true hl] at cd;clear hl HF3 HF4;go_wp2_with fail;refine cd.mono ?_;rintro e _ ⟨rfl,rfl⟩;clear cd;go_wp2_with fail
    first
    | (refine bodyPost_ret (results_none rfl _ _ _) rfl ?_;exact hR.out _ _ ⟨rfl,gU.out⟩)
    | exact hR.out _ _ ⟨rfl,gU.out⟩
    | (go_end0;exact hR.out _ _ ⟨rfl,gU.out⟩)
   have gU:Hid (Fam w0 ((w2).setCell ⟨b,2,none⟩ (.int .i64 3)) (QL l i j k q r b m (t.settle m))):=by
    show Fam _ _ _;rw [<-HS3.out];unfold Tb.rJ;rw [if_neg hl];exact aPl.out
   rw [decide_eq_false hl] at cd;clear hl HF3 HF4;go_wp2_with fail;refine cd.mono ?_;rintro e _ ⟨rfl,rfl⟩;clear cd;go_wp2_with fail
   first
   | (refine bodyPost_ret (results_none rfl _ _ _) rfl ?_;exact hR.out _ _ ⟨rfl,gU.out⟩)
   | exact hR.out _ _ ⟨rfl,gU.out⟩
   | (go_end0;exact hR.out _ _ ⟨rfl,gU.out⟩)
theorem gJ (w:World) (T3:Three l i j k) (hf:Fam w0 w (QL l i j k q r b m t)) (hg:t.Good m) (hp:1<=t.ph):Calls prog 76 #[.pointer (some ⟨b,0,none⟩),.pointer (some ⟨r,0,none⟩)] w (fun e w'=>e=.returned (.tuple #[])/\Fam w0 w' (QL l i j k q r b m (t.settle m))):=by
 have h4:=hg.p4;have:t.ph=1\/t.ph=2\/t.ph=3\/t.ph=4:=by omega
 rcases this with e|e|e|e
 ·exact aFI w T3 hf hg e
 ·exact aFH w T3 hf hg e
 ·exact aFG w T3 hf hg e
 exact aFF w T3 hf hg e
end
end Go.Proofs.YthflghdaejbdkaaGreat
