/- Lemmas of this claim. -/
import Derived.Test.YthflghdaejbdkaaGreatXcTbP
import Derived.StillTailTactics
namespace Go.Proofs.YthflghdaejbdkaaGreat
open _root_.Go.Proofs.Tryz (prog)
open Go.RowKit Go.Maps
set_option maxHeartbeats 3200000
set_option maxRecDepth 100000
set_option linter.unusedVariables false
theorem qM {P:Program} {w:World} {ops:Array Oper} {d:List Oper} {o:Oper} {a:Act} {Q:Exit->Act->World->Prop} (h5:o.guard=none) (s x:Operand) (t:TypeId)
  (ho:o.op=.call { callee:=.builtin .append,args:=#[s,x],argTypes:=#[t,t] })
  (e:TypeId) (i:TypeInfo) (ht:P.underlying t=some (.slice e)) (hi:P.info? e=some i) (h0:i.size=1)
  (g n cap:Nat) (z:Array Value) (hg:w.heap[g]?=some (.cells z e (0,0))) (hs:a.eval s=.slice (some ⟨g,0,none⟩) n cap)
  (ad:Addr) (m c:Nat) (y:List Value) (hx:a.eval x=.slice (some ad) m c) (hl:y.length=m) (h2:∀ j u,y[j]?=some u->w.cell? (ad.add j)=some u) (h1:∀ u∈y,u.oneCell'=true)
  (h3:n+m<=cap) (h4:n+m<=z.size)
  (h:wpList P ops Q d (a.put o.dst (.slice (some ⟨g,0,none⟩) (n+m) cap)) (w.setRow g (z.toList.take n ++ y ++ z.toList.drop (n+m)).toArray)):wpList P ops Q (o :: d) a w:=by
 refine wpList_plain h5 fun K hK=>?_;have hr:=run_append_room (P:=P) w t o.type e i ht hi g n cap z hg ad m c y (by rw [hl,h0,Nat.mul_one]) h2 h1 h3 (by rw [hl,h0,Nat.mul_one];exact h4);rw [h0,Nat.mul_one,hl] at hr;unfold Oper.wp;simp only [execOp,ho,resolve,invoke,builtin,Sem.run_bind,Sem.run_pure,Result.andThen_ok,List.map_toArray,List.map_cons,List.map_nil,hs,hx,hr];exact hK _ _ h
theorem aMT (w:World) (base:Nat) (v:Value) (x:Int) (l:List Int) (hI:aK w base v (x :: l)) (hl:l.length<=1000000) :
  Calls prog 197 #[v,.int .i64 0,.int .i64 1] w fun e w'=>∃ v',e=.returned v'/\aK w' base v' l/\v'.ownBlock=v.ownBlock/\Only v.ownBlock.toList w w':=by
 refine aF fun R hR=>?_;rcases hI.form with ⟨_,h0⟩|⟨g,cap,rfl,x5,y4,h9,hc⟩
 ·simp at h0
 obtain ⟨_,_,cs,h3,h7,h5,h9,h8⟩:=hI.row;have y0:cap<=9223372036854775807:=h8;obtain ⟨n,hn⟩:∃ n,n=l.length:=⟨_,rfl⟩;have h1:(x :: l).length=n+1:=by simp [hn]
 rw [h1] at h9 h5 hR ⊢;have qJ:=aA h3;have x3:=aA h5;have HN:=aA hn;have h6:=aA h7;clear hI h3 h5 hn h7 hc h1;have b1:(0:Int)<=(n:Int)+1:=by omega
 have b2:(1:Int)<=(n:Int)+1:=by omega
 have b3:(n:Int)+1<=cap:=by omega
 go_in;go_wp2_with fail;go_still_tail 6,(by kernel_rfl);change wpList _ _ _ _ _ w.drew;have x7:(if cap=1 then (some ⟨g,0,none⟩:Option Addr) else some ⟨g,1,none⟩)=some ⟨g,if cap=1 then 0 else 1,none⟩:=by split<;>rfl
 rw [x7];obtain ⟨i0,hi,y5,x9,y6⟩:=info_parts jV;have z:w.drew.heap[g]?=some (.cells cs.toArray 3 (0,0)):=qJ.out;refine qM rfl _ _ 23 rfl 3 i0 Tryz.underlying23 hi x9 g 0 cap cs.toArray z rfl ⟨g,if cap=1 then 0 else 1,none⟩ n (cap - 1) (l.map (.int .i64)) rfl (by simp [HN.out]) (fun j u hu=>?_) (fun u hu=>?_) (by omega) (by simp [h6.out];omega) ?_
 ·have hj:j<l.length:=by
   have:=(List.getElem?_eq_some_iff.1 hu).1;simpa using this
  have x6:cap≠1:=by have:=HN.out;omega
  rw [if_neg x6,dI];refine (qJ.out.drew).cell (1+j) ?_;have h2:(cs.take (n+1))[1+j]?=cs[1+j]?:=by rw [List.getElem?_take_of_lt (by have:=HN.out;omega)]
  rw [<-h2,x3.out,Nat.add_comm 1 j];exact hu
 ·simp only [List.mem_map] at hu;obtain ⟨y,_,rfl⟩:=hu;rfl
 have d:cs.toArray.toList.take 0 ++ l.map (.int .i64) ++ cs.toArray.toList.drop (0+n)=l.map (.int .i64) ++ cs.drop n:=by simp
 rw [d];have R2:Hid (Row (w.drew.setRow g (l.map (Value.int .i64) ++ cs.drop n).toArray) g 3 (l.map (Value.int .i64) ++ cs.drop n)):=setRow_heap _ g cs.toArray _ _ (0,0) z;have h4:Hid ((l.map (Value.int .i64) ++ cs.drop n).length=cap):=by show _=_;have:=HN.out;have:=h6.out;simp;omega
 have O2:Hid (Only [g] w (w.drew.setRow g (l.map (Value.int .i64) ++ cs.drop n).toArray)):=⟨rfl,rfl,rfl,by show _<=(w.heap.modify g _).size;rw [Array.size_modify];exact Nat.le_refl _,fun k hk hn=>setRow_other _ g k _ (by simpa using hn)⟩;have x4:Hid (∀ m,m<n->(l.map (Value.int .i64) ++ cs.drop n)[m]?=some (.int .i64 (gI l m))):=fun m hm=>by
  have:=HN.out;rw [List.getElem?_append_left (by simp;omega),List.getElem?_map];unfold gI;rw [List.getElem?_eq_getElem (by omega)];rfl
 generalize w.drew.setRow g (l.map (Value.int .i64) ++ cs.drop n).toArray=w2 at*;generalize l.map (Value.int .i64) ++ cs.drop n=y3 at*;generalize (if cap=1 then 0 else 1:Nat)=y1 at*;clear z d;have b4:(0:Int)<=(n:Int):=by omega
 have b5:(n:Int)<=(n:Int)+1:=by omega
 have x8:0+n=n:=by omega
 rw [x8];have x1:Hid (∀ m,m<1->(w2.cell? ⟨g,n+m,none⟩).isSome=true):=fun m hm=>by
  rw [R2.out.cell (n+m) (List.getElem?_eq_getElem (by rw [h4.out];omega))];rfl
 have x2:Hid (∀ m,m<1->w2.frozen? ⟨g,n+m,none⟩=false):=fun m hm=>R2.out.free _;go_wp2_with (with_reducible refine jD rfl (.tmp 31) 23 3 rfl (.int .i64 0) Tryz.underlying23 aBg rfl rfl g n 1 (cap - n) rfl (by omega) x1.out x2.out ?_);obtain ⟨y2,q1,q2,q3⟩:=R2.out.setCells' [Value.int .i64 0] n;have Q1:=aA q1;have Q2:=aA q2;have Q3:=aA q3;have QO:Hid (Only [g] w (w2.setCells g n [Value.int .i64 0])):=O2.out.setCells (.inl (by simp)) _ _;clear q1 q2 q3;generalize w2.setCells g n [Value.int .i64 0]=w3 at*;go_wp2_with fail;have hn:=HN.out;refine hR.out _ _ ⟨_,rfl,?_,rfl,by simpa [Value.ownBlock] using QO.out⟩;rw [hn];exact aK.ofRow x5 Q1.out (by rw [Q2.out];exact h4.out) (mQ (by rw [Q2.out,h4.out];omega) (fun m hm=>by rw [Q3.out m (by omega)];exact x4.out m (by omega))) (by omega) h8
section
variable {l:List Asn} {i j k hb p b:Nat} {m:Mk} {t:Tb} {kk:Nat} {w0 w:World}
theorem aEg (w:World) {ev qv:Value} {mo:Option Nat} (h:mG w b ev qv mo t kk) (n:Int):Calls prog 24 #[.pointer (some ⟨b,0,none⟩),.int .i64 n] w (fun e w'=>e=.returned (.tuple #[.int .i64 (t.target n).1,.int .i64 (t.target n).2])/\Only [] w w'):=by
 refine aF fun R hR=>?_;have hE:t.target n=((t.entry n).1.tgt,(t.entry n).2):=by unfold Tb.target Tb.entry;split<;>rfl
 rw [hE] at hR;have ca:=aOa w h n;unfold enV at ca;clear hE h;generalize t.entry n=r at*;obtain ⟨en,er⟩:=r;obtain ⟨y,z,d⟩:=en;go_in;go_wp2_with fail;refine ca.mono ?_;rintro e w1 ⟨rfl,ho⟩;have h0:=aA (ho.alloc (.cells #[.int .i64 y,.int .i64 z,.int .i64 d] 123));have y0:=(Row.new w1 123 [.int .i64 y,.int .i64 z,.int .i64 d]).cell 0 rfl;have y1:=(Row.new w1 123 [.int .i64 y,.int .i64 z,.int .i64 d]).cell 1 rfl;clear ho ca;go_wp2;exact hR.out _ _ ⟨rfl,h0.out⟩
theorem aHp (w:World) (n:Nat):Calls prog 160 #[.int .i64 (n:Int)] w (aO w (.int .i64 (if n=4 then 3 else n:Nat))):=by
 refine aF fun R y=>?_
 by_cases h:n=4
 ·subst h;go_in;go_wp2;exact y.out _ _ ⟨rfl,rfl⟩
 rw [if_neg h] at y;have z:((n:Int) == 4)=false:=by rw [beq_eq_false_iff_ne];omega
 go_in;go_wp2;exact y.out _ _ ⟨rfl,rfl⟩
theorem Mk.aQi (z:m.M.Ok) (x:Int):m.isW x=(decide (x≠0) && (decide ((m.color x).2=0) && decide ((m.color x).1=0))):=by
 unfold Mk.isW Mk.color
 by_cases y:x=0
 ·subst y;rw [aFX z];simp
 cases h:(m.M.ob x).isSome<;>simp [y]
theorem qA (w:World) (T2:gX l i j) (hf:Fam w0 w (ML l i j hb p m)) (x:Int) (hx:wfI x):Calls prog 151 #[.pointer (some ⟨p,0,none⟩),.int .i64 x] w (Same w (.bool (m.isW x))):=by
 refine aF fun R y=>?_;have d:=tX w T2 hf x hx;obtain ⟨hk,_⟩:=ML.ph T2 hf;rw [Mk.aQi hk] at y;clear hk hf;generalize m.color x=r at*;obtain ⟨c,e⟩:=r
 by_cases h0:x=0
 ·have z:(decide (x≠0) && (decide (e=0) && decide (c=0)))=false:=by simp [h0]
  simp only at y;rw [z] at y;subst h0;go_in;go_wp2_with fail;refine d.mono ?_;rintro e _ ⟨rfl,n,rfl⟩;clear d z;go_wp2;exact y.out _ _ ⟨rfl,n,rfl⟩
 have h3:(x != 0)=true:=by simp [h0]
 by_cases h1:e=0
 ·by_cases h2:c=0
  ·have z:(decide (x≠0) && (decide (e=0) && decide (c=0)))=true:=by simp [h0,h1,h2]
   simp only at y;rw [z] at y;subst h1 h2;go_in;go_wp2_with fail;refine d.mono ?_;rintro e _ ⟨rfl,n,rfl⟩;clear d z;go_wp2;exact y.out _ _ ⟨rfl,n,rfl⟩
  have z:(decide (x≠0) && (decide (e=0) && decide (c=0)))=false:=by simp [h2]
  simp only at y;rw [z] at y;subst h1;have hc:(c == 0)=false:=by rw [beq_eq_false_iff_ne];exact h2
  go_in;go_wp2_with fail;refine d.mono ?_;rintro e _ ⟨rfl,n,rfl⟩;clear d z;go_wp2;exact y.out _ _ ⟨rfl,n,rfl⟩
 have z:(decide (x≠0) && (decide (e=0) && decide (c=0)))=false:=by simp [h1]
 simp only at y;rw [z] at y;have hc:(e == 0)=false:=by rw [beq_eq_false_iff_ne];exact h1
 go_in;go_wp2_with fail;refine d.mono ?_;rintro e _ ⟨rfl,n,rfl⟩;clear d z;go_wp2;exact y.out _ _ ⟨rfl,n,rfl⟩
theorem aID (w:World) (T3:Three l i j k) (hf:Fam w0 w (PL l i j k hb p b m t kk)) (hl:t.q.length<=1000000):Calls prog 124 #[.pointer (some ⟨b,0,none⟩)] w (fun e w'=>e=.returned (.tuple #[.int .i64 t.take.1,.int .i64 t.take.2.1])/\Fam w0 w' (PL l i j k hb p b m t.take.2.2 kk)):=by
 refine aF fun R hR=>?_;obtain ⟨ev,qv,mo,ht⟩:=PL.tb T3 hf;obtain ⟨z0,z1,z2,z3,z4,z5,zf⟩:=ht.cells;have hn:=dY w z0;have y:=aA ht;have HF:=aA hf;unfold Tb.take at hR
 cases e:t.q with
 | nil=>
  rw [e] at hR;have z:=ht.q;rw [e] at z;obtain ⟨a,c,rfl⟩:=z.len;clear ht z hf;replace z2:w.cell? ⟨b,2,none⟩=some (.slice a 0 c):=z2;go_in;go_wp2_with fail;refine hn.mono ?_;rintro e _ ⟨rfl,rfl⟩;go_wp2;exact hR.out _ _ ⟨rfl,HF.out⟩
 | cons x r=>
  rw [e] at hR;have z:=ht.q;rw [e] at z;have x1:r.length<=1000000:=by rw [e] at hl;simp at hl;omega
  have cd:=aMT w 0 qv x r z x1;obtain ⟨a,c,x3⟩:=z.len;subst x3;obtain ⟨g,o,rfl,hc⟩:=z.read.at (k:=0) (by simp);rw [Nat.add_zero] at hc;replace hc:w.cell? ⟨g,o,none⟩=some (.int .i64 x):=hc;replace z2:w.cell? ⟨b,2,none⟩=some (.slice (some ⟨g,o,none⟩) (r.length+1) c):=z2;replace cd:Calls prog 197 #[.slice (some ⟨g,o,none⟩) (r.length+1) c,.int .i64 0,.int .i64 1] w fun e w'=>∃ d,e=.returned d/\aK w' 0 d r/\d.ownBlock=(Value.slice (some ⟨g,o,none⟩) (r.length+1) c).ownBlock/\Only (Value.slice (some ⟨g,o,none⟩) (r.length+1) c).ownBlock.toList w w':=cd;obtain ⟨n,h7⟩:∃ n,n=r.length:=⟨_,rfl⟩;rw [<-h7] at z2 cd;have HN:=aA h7;have x4:((n:Int)+1 == 0)=false:=by rw [beq_eq_false_iff_ne];omega
  have x5:(0:Int)<(n:Int)+1:=by omega
  clear z h7 hl x1 ht hf;go_in;go_wp2_with fail;refine hn.mono ?_;rintro e _ ⟨rfl,rfl⟩;go_wp2_with fail;refine cd.mono ?_;rintro e w2 ⟨d,rfl,h6,h4,ho⟩;have h8:Only [g] w w2:=ho;have h9:g≠b:=(y.out.n2 g rfl).1;have h5:∃ U,Row w2 b U [.bool true,ev,.slice (some ⟨g,o,none⟩) (r.length+1) c,.int .i64 (t.ph:Int),.int .i64 (t.nx:Int),.map mo]:=y.out.row.imp fun U x=>h8.row x (by simp;exact fun e=>h9 e.symm);have hz:w2.cell? ⟨b,2,none⟩=some (.slice (some ⟨g,o,none⟩) (n+1) c)/\w2.frozen? ⟨b,2,none⟩=false:=by
   obtain ⟨U,x⟩:=h5;exact ⟨by rw [HN.out];exact x.cell 2 rfl,x.free 2⟩
  obtain ⟨y2,yf⟩:=hz;have x2:Hid (Fam w0 (w2.setCell ⟨b,2,none⟩ d) (PL l i j k hb p b m ⟨t.ents,r,t.ph,t.nx,t.fd⟩ kk)):=by
   have hs:Only [b] w2 (w2.setCell ⟨b,2,none⟩ d):=(Only.refl _ w2).set (.inl (by simp)) _;have hP:Only [b,g] w (w2.setCell ⟨b,2,none⟩ d):=(h8.mono (by simp)).set (.inl (by simp)) _;have h0:∀ x,d.ownBlock=some x->x=g:=fun x hx=>by rw [h4] at hx;cases hx;rfl
   refine PL.tbT T3 HF.out y.out ev d mo _ _ ⟨h5.imp fun U x=>x.set 2 _,y.out.ents.only hP (fun x hx=>?_),h6.only hs (fun x hx=>?_),fun mb e=>?_,y.out.two,fun x hx=>⟨(y.out.n1 x hx).1,(y.out.n1 x hx).2.1,fun e=>?_⟩,fun x hx=>?_,y.out.n3⟩ (fun x hx=>?_) (hP.toP (fun x hx=>?_))
   ·have:=y.out.n1 x hx;simp only [List.mem_cons,List.not_mem_nil,or_false,not_or];exact ⟨this.1,fun e=>this.2.2 (by rw [e];rfl)⟩
   ·rw [h0 x hx];simpa using h9
   ·obtain ⟨n,f,h1,h2⟩:=y.out.fnd mb e;refine ⟨n,f,h1.only (hP.toP (S:=fun x=>x=b\/x=g) (fun x hx=>.inl (by simpa using hx))) ?_,h2⟩;rintro (rfl|rfl)
    ·exact y.out.n3 e
    exact (y.out.n2 mb rfl).2 e
   ·have h3:=h0 x e;exact (y.out.n1 x hx).2.2 (by rw [h3];rfl)
   ·rw [h0 x hx];exact y.out.n2 g rfl
   ·rcases hx with hx|hx|hx|hx
    ·exact .inl (.inl hx)
    ·exact .inl (.inr (.inl hx))
    ·exact .inl (.inr (.inr (.inl (by rw [h0 x hx];rfl))))
    exact .inl (.inr (.inr (.inr hx)))
   simp only [List.mem_cons,List.not_mem_nil,or_false] at hx;rcases hx with rfl|rfl
   ·exact .inl (.inl rfl)
   exact .inl (.inr (.inr (.inl rfl)))
  obtain ⟨a3,c3,rfl⟩:=h6.len;clear h6 h4 ho h8 h5 cd;generalize r.length=n3 at*;go_wp2;exact hR.out _ _ ⟨rfl,x2.out⟩
end
theorem aLz (w:World):Calls prog 84 #[] w (fun e w'=>e=.returned (.pointer (some ⟨w.heap.size,0,none⟩))/\w'=w.alloc (.cells #[.bool true,.slice none 0 0,.slice none 0 0,.int .i64 0,.int .i64 0,.map none] 119)):=by
 refine aF fun R y=>?_;go_in;go_wp2;exact y.out _ _ ⟨rfl,rfl⟩
theorem aNZ (w:World):aGo w (w.alloc (.cells #[.bool true,.slice none 0 0,.slice none 0 0,.int .i64 0,.int .i64 0,.map none] 119)) (TbA w.heap.size Tb.new 0):=
 ⟨(Only.refl [] w).alloc _,fun k=>k=w.heap.size\/(Value.slice none 0 0).ownBlock=some k\/(Value.slice none 0 0).ownBlock=some k\/(none:Option Nat)=some k,⟨.slice none 0 0,.slice none 0 0,none,⟨⟨_,Row.new w _ _⟩,iO.nil _ _ _,aK.nil _ _,fun mb e=>by (cases e),fun _ h=>by omega,fun g hg=>by (cases hg),fun g hg=>by (cases hg),fun e=>by (cases e)⟩,fun k=>Iff.rfl⟩,fun k y=>by
  rcases y with y|y|y|y
  ·omega
  ·cases y
  ·cases y
  cases y⟩
theorem aIm {w:World} {ops:Array Oper} {z:List Oper} {o:Oper} {a:Act} {Q:Exit->Act->World->Prop} (h6:o.guard=none) (s x:Operand)
  (ho:o.op=.call { callee:=.builtin .append,args:=#[s,x],argTypes:=#[117,117] })
  (v:Value) (l:List En) (hs:a.eval s=v) (h0:iO w 123 0 v l)
  (bk U:Nat) (y:En) (hx:a.eval x=.slice (some ⟨bk,0,none⟩) 1 1) (d:Row w bk U (enC y)) (h4:l.length<=1000000)
  (h:∀ e w',iO w' 123 0 e (l ++ [y])->Only v.ownBlock.toList w w'->(e.ownBlock=v.ownBlock\/e.ownBlock=some w.heap.size)->wpList prog ops Q z (a.put o.dst e) w'):wpList prog ops Q (o :: z) a w:=by
 obtain ⟨i0,hi,h7,h8,h9⟩:=info_parts aJV;refine bU h6 s x 117 ho 0 123 i0 _ 3 24 Tryz.underlying117 hi h7 h8 h9 rfl (by decide) v l.length _ hs h0 ⟨bk,0,none⟩ 1 1 (enC y) hx (by simp [enC])
  (fun j u hu=>?_) (fun u hu=>?_) (by simp only [maxLen];omega) (by omega) (Nat.zero_le _) (fun e w' h1 h2 h3 h5=>h e w' ?_ ?_ h5)
 ·rw [dI];exact d.cell _ (by rw [Nat.zero_add];exact hu)
 ·simp only [enC,List.mem_cons,List.not_mem_nil,or_false] at hu;rcases hu with rfl|rfl|rfl<;>rfl
 ·unfold iO;rw [List.length_append,zQ];have:dH [y]=enC y:=by simp [dH]
  rw [this];exact h1
 exact (Only.refl _ _).grown h2 (fun k hk=>.inl (by rw [hk];simp))
theorem aRa (w:World) (z:Value) (kd x g:Int):Calls prog 85 #[.pointer none,z,.int .i64 kd,.int .i64 x,.int .i64 g] w (aO w (.tuple #[.int .i64 0,.int .i64 1])):=by
 refine aF fun R y=>?_;go_in;go_wp2_with fail;refine (aCl _).mono ?_;rintro e _ ⟨rfl,rfl⟩;go_wp2;exact y.out _ _ ⟨rfl,rfl⟩
section
variable {l:List Asn} {i j k hb p b:Nat} {m:Mk} {t:Tb} {kk:Nat} {w0 w:World}
theorem PL.aSI (T3:Three l i j k) {ev qv:Value} {mo:Option Nat} (hf:Fam w0 w (PL l i j k hb p b m t kk)) (z:mG w b ev qv mo t kk) {d:World} {v':Value} {y:En} (he:iO d 123 0 v' (t.ents ++ [y])) (ho:Only ev.ownBlock.toList w d) (h0:v'.ownBlock=ev.ownBlock\/∃ g,v'.ownBlock=some g/\w.heap.size<=g) :
  d.cell? ⟨b,1,none⟩=some ev/\d.frozen? ⟨b,1,none⟩=false/\Fam w0 (d.setCell ⟨b,1,none⟩ v') (PL l i j k hb p b m ⟨t.ents ++ [y],t.q,t.ph,t.nx,t.fd⟩ kk):=by
 have h5:b<w.heap.size:=by obtain ⟨U,hr⟩:=z.row;exact hr.lt
 have h4:∃ U,Row d b U [.bool true,ev,qv,.int .i64 (t.ph:Int),.int .i64 (t.nx:Int),.map mo]:=z.row.imp fun U x=>ho.row x (fun hm=>(z.n1 b (jL hm)).1 rfl);have hP:aI (fun x=>x=b\/ev.ownBlock=some x) w (d.setCell ⟨b,1,none⟩ v'):=((ho.toP (S:=fun x=>x=b\/ev.ownBlock=some x) (fun x hx=>.inl (.inr (jL hx))))).set (.inl (.inl rfl)) _;have hs:Only [b] d (d.setCell ⟨b,1,none⟩ v'):=(Only.refl _ d).set (.inl (by simp)) _;have h3:∀ g,v'.ownBlock=some g->g≠b/\mo≠some g/\qv.ownBlock≠some g:=fun g hg=>by
  rcases h0 with h|⟨g2,h,h2⟩
  ·exact z.n1 g (by rw [<-h];exact hg)
  rw [h] at hg
  cases hg
  refine ⟨by omega,fun e=>?_,fun e=>?_⟩
  ·obtain ⟨n,f,h1,_⟩:=z.fnd _ e;have:=h1.lt;omega
  have:=(z.q.own _ e).2;omega
 obtain ⟨U,hr⟩:=h4;refine ⟨hr.cell 1 rfl,hr.free 1,PL.tbT T3 hf z v' qv mo _ _ ⟨⟨U,hr.set 1 _⟩,he.only hs (fun x hx=>by have:=(h3 x hx).1;simpa using this),z.q.dA hP (fun x hx=>?_),fun mb e=>?_,z.two,h3,z.n2,z.n3⟩ (fun x hx=>?_) (hP.mono (fun x hx=>.inl ?_))⟩
 ·rintro (h|h)
  ·exact (z.n2 x hx).1 h
  exact (z.n1 x h).2.2 hx
 ·obtain ⟨n,f,h1,h2⟩:=z.fnd mb e;refine ⟨n,f,h1.only hP ?_,h2⟩;rintro (h|h)
  ·exact z.n3 (by rw [<-h];exact e)
  exact (z.n1 mb h).2.1 e
 ·rcases hx with hx|hx|hx|hx
  ·exact .inl (.inl hx)
  ·rcases h0 with h|⟨g2,h,h2⟩
   ·exact .inl (.inr (.inl (by rw [<-h];exact hx)))
   rw [h] at hx;cases hx;exact .inr h2
  ·exact .inl (.inr (.inr (.inl hx)))
  exact .inl (.inr (.inr (.inr hx)))
 rcases hx with hx|hx
 ·exact .inl hx
 exact .inr (.inl hx)
theorem aFq (w:World) (T3:Three l i j k) (hf:Fam w0 w (PL l i j k hb p b m t kk)) (kd x g:Int) (hx:wfI x):Calls prog 85 #[.pointer (some ⟨b,0,none⟩),.pointer (some ⟨p,0,none⟩),.int .i64 kd,.int .i64 x,.int .i64 g] w (fun e w'=>e=.returned (.tuple #[.int .i64 (t.add m kd x g).1,.int .i64 (t.add m kd x g).2.1])/\Fam w0 w' (PL l i j k hb p b m (t.add m kd x g).2.2 kk)):=by
 refine aF fun R y=>?_;obtain ⟨ev,qv,mo,ht⟩:=PL.tb T3 hf;obtain ⟨z0,z1,z2,z3,z4,z5,zf⟩:=ht.cells;have hn:=dY w z0;have cc:=tX w T3.t2 hf x hx;have HT:=aA ht;have HF:=aA hf;unfold Tb.add at y;clear z1 z2 z3 z4 z5 zf z0
 by_cases h1:kd<1\/3<kd
 ·rw [if_pos h1] at y;clear hf ht cc
  by_cases h2:kd<1
  ·clear h1;go_in;go_wp2_with fail;refine hn.mono ?_;rintro e _ ⟨rfl,rfl⟩;go_wp2;exact y.out _ _ ⟨rfl,HF.out⟩
  have h3:=h1.resolve_left h2;clear h1;go_in;go_wp2_with fail;refine hn.mono ?_;rintro e _ ⟨rfl,rfl⟩;go_wp2;exact y.out _ _ ⟨rfl,HF.out⟩
 rw [if_neg h1] at y;have h2:¬ kd<1:=fun h=>h1 (.inl h);have h3:¬ 3<kd:=fun h=>h1 (.inr h);clear h1;have z:m.color x=if (m.M.ob x).isSome then (m.col x,0) else (0,3):=rfl
 by_cases hp:t.ph=0
 rotate_left
 ·rw [if_pos hp] at y;generalize y2:m.color x=r at*;obtain ⟨c1,c2⟩:=r;have x1:c2=0\/c2=3:=by
   split at z<;>cases z
   ·exact .inl rfl
   exact .inr rfl
  have y5:(c2 == 1)=false:=by rcases x1 with h|h<;>rw [h]<;>rfl
  have y6:(0:Int)<(t.ph:Int):=by omega
  have HC:Hid (∀ n,(w.drewN n).cell? ⟨b,3,none⟩=some (.int .i64 (t.ph:Int))):=fun n=>(HT.out.cells).2.2.2.1;clear hf ht z y2 x1 hp;generalize t.ph=ph at*;go_in;go_wp2_with fail;refine hn.mono ?_;rintro e _ ⟨rfl,rfl⟩;go_wp2_with fail;refine cc.mono ?_;rintro e _ ⟨rfl,n,rfl⟩;have y3:=HC.out n;clear cc;go_wp2;exact y.out _ _ ⟨rfl,HF.out.drewN n⟩
 rw [if_neg (fun h=>h hp)] at y
 cases hs:(m.M.ob x).isSome with
 | false=>
  rw [if_pos hs] at y;rw [z,hs] at cc;have HC:Hid (∀ n,(w.drewN n).cell? ⟨b,3,none⟩=some (.int .i64 0)):=fun n=>by
   have:=(HT.out.cells).2.2.2.1;rw [hp] at this;exact this
  clear hf ht z hp;go_in;go_wp2_with fail;refine hn.mono ?_;rintro e _ ⟨rfl,rfl⟩;go_wp2_with fail;refine cc.mono ?_;rintro e _ ⟨rfl,n,rfl⟩;have y3:=HC.out n;clear cc;go_wp2;exact y.out _ _ ⟨rfl,HF.out.drewN n⟩
 | true=>
  rw [if_neg (by rw [hs];simp)] at y;rw [z,hs] at cc;obtain ⟨a,c,x2⟩:=HT.out.ents.len;have HC:Hid (∀ n,(w.drewN n).cell? ⟨b,3,none⟩=some (.int .i64 0)):=fun n=>by
   have:=(HT.out.cells).2.2.2.1;rw [hp] at this;exact this
  have h6:Hid (∀ n,(w.drewN n).cell? ⟨b,1,none⟩=some ev):=fun n=>(HT.out.cells).2.1;clear z hp
  by_cases h4:20<=t.ents.length
  ·rw [if_pos h4] at y;have x3:(20:Int)<=(t.ents.length:Int):=by omega
   subst x2;clear hf ht h4;generalize t.ents.length=h5 at*;go_in;go_wp2_with fail;refine hn.mono ?_;rintro e _ ⟨rfl,rfl⟩;go_wp2_with fail;refine cc.mono ?_;rintro e _ ⟨rfl,n,rfl⟩;have y3:=HC.out n;have y1:=h6.out n;clear cc;go_wp2;exact y.out _ _ ⟨rfl,HF.out.drewN n⟩
  rw [if_neg h4] at y;have x3:¬ (20:Int)<=(t.ents.length:Int):=by omega
  have x4:t.ents.length<=1000000:=by omega
  have x9:=aA x4;have HE:=aA HT.out.ents;subst x2;clear hf ht h4 x4;obtain ⟨h5,h0⟩:∃ n,n=t.ents.length:=⟨_,rfl⟩;rw [<-h0] at y x3 h6;have d:=aA h0;clear h0;go_in;go_wp2_with fail;refine hn.mono ?_;rintro e _ ⟨rfl,rfl⟩;go_wp2_with fail;refine cc.mono ?_;rintro e _ ⟨rfl,n,rfl⟩;have y3:=HC.out n;have y1:=h6.out n;have x6:=aA (HF.out.drewN n);have y0:=aA (HT.out.aN ((Only.refl [] w).drewN n));clear cc;generalize w.drewN n=w1 at*;have HY:Hid (Row (w1.alloc (.cells #[.int .i64 kd,.int .i64 x,.int .i64 g] 123)) w1.heap.size 123 (enC ⟨kd,x,g⟩)):=Row.new w1 _ _;have x7:=aA (x6.out.alloc (.cells #[.int .i64 kd,.int .i64 x,.int .i64 g] 123));have h7:=aA (y0.out.aN ((Only.refl [] w1).alloc (.cells #[.int .i64 kd,.int .i64 x,.int .i64 g] 123)));go_wp2_with (at_builtin;refine aIm rfl _ _ rfl _ t.ents (by rw [<-d.out];rfl) h7.out.ents _ _ ⟨kd,x,g⟩ rfl HY.out (by have:=x9.out;have:=d.out;omega) ?_);intro v' w2 he ho h8;have h9:v'.ownBlock=(Value.slice a t.ents.length c).ownBlock\/∃ g2,v'.ownBlock=some g2/\(w1.alloc (.cells #[.int .i64 kd,.int .i64 x,.int .i64 g] 123)).heap.size<=g2:=h8.imp id (fun h=>⟨_,h,by simp⟩);have hA:=PL.aSI T3 x7.out h7.out he ho h9;obtain ⟨q1,q2,q3⟩:=hA;rw [<-d.out] at q1;have HQ:=aA q3;have x8:Hid ((t.ents ++ [⟨kd,x,g⟩]:List En).length=h5+1):=by show _=_;rw [List.length_append,d.out];rfl
  obtain ⟨a2,c2,x5⟩:=he.len;rw [x8.out] at x5;subst x5;clear he ho h8 h9 q3;have y4:(h5:Int)+1 - 1=h5:=by omega
  go_wp2;exact y.out _ _ ⟨rfl,HQ.out⟩
end
end Go.Proofs.YthflghdaejbdkaaGreat
