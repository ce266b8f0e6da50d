/- Lemmas of this claim. -/
import Derived.Test.YthflghdaejbdkaaGreatXdTbP
import Derived.StillTailTactics
namespace Go.Proofs.YthflghdaejbdkaaGreat
open _root_.Go.Proofs.Tryz (prog)
open Go.RowKit Go.Maps
set_option maxHeartbeats 3200000
set_option maxRecDepth 100000
set_option linter.unusedVariables false
theorem pR {P:Program} {w:World} {ops:Array Oper} {rest:List Oper} {o:Oper} {a:Act} {Q:Exit->Act->World->Prop} (hgd:o.guard=none) (s x:Operand) (t:TypeId)
  (ho:o.op=.call { callee:=.builtin .append,args:=#[s,x],argTypes:=#[t,t] })
  (e:TypeId) (i:TypeInfo) (ht:P.underlying t=some (.slice e)) (hi:P.info? e=some i) (hsz:i.size=1)
  (g n cap:Nat) (cur:Array Value) (hg:w.heap[g]?=some (.cells cur e (0,0))) (hs:a.eval s=.slice (some ⟨g,0,none⟩) n cap)
  (ad:Addr) (m c:Nat) (news:List Value) (hx:a.eval x=.slice (some ad) m c) (hl:news.length=m) (hnews:∀ j u,news[j]?=some u->w.cell? (ad.add j)=some u) (h1:∀ u∈news,u.oneCell'=true)
  (hroom:n+m<=cap) (hfit:n+m<=cur.size)
  (h:wpList P ops Q rest (a.put o.dst (.slice (some ⟨g,0,none⟩) (n+m) cap)) (w.setRow g (cur.toList.take n ++ news ++ cur.toList.drop (n+m)).toArray)):wpList P ops Q (o :: rest) a w:=by
 refine wpList_plain hgd fun K hK=>?_;have hr:=run_append_room (P:=P) w t o.type e i ht hi g n cap cur hg ad m c news (by rw [hl,hsz,Nat.mul_one]) hnews h1 hroom (by rw [hl,hsz,Nat.mul_one];exact hfit);rw [hsz,Nat.mul_one,hl] at hr;unfold Oper.wp;simp only [execOp,ho,resolve,invoke,builtin,Sem.run_bind,Sem.run_pure,Result.andThen_ok,List.map_toArray,List.map_cons,List.map_nil,hs,hx,hr];exact hK _ _ h
theorem aLw (w:World) (base:Nat) (v:Value) (x:Int) (l:List Int) (hI:aO w base v (x :: l)) (hl:l.length<=1000000) :
  Calls prog 197 #[v,.int .i64 0,.int .i64 1] w fun e w'=>∃ v',e=.returned v'/\aO w' base v' l/\v'.ownBlock=v.ownBlock/\Only v.ownBlock.toList w w':=by
 refine aF fun R hR=>?_;rcases hI.form with ⟨_,h0⟩|⟨g,cap,rfl,hbg,hgl,hlc,hc⟩
 ·simp at h0
 obtain ⟨_,_,cs,hrow,hcl,htk,hlc,hcm⟩:=hI.row;have hcm':cap<=9223372036854775807:=hcm;obtain ⟨n,hn⟩:∃ n,n=l.length:=⟨_,rfl⟩;have hlen:(x :: l).length=n+1:=by simp [hn]
 rw [hlen] at hlc htk hR ⊢;have pJ:=aA hrow;have HTK:=aA htk;have HN:=aA hn;have HCL:=aA hcl;clear hI hrow htk hn hcl hc hlen;have b1:(0:Int)<=(n:Int)+1:=by omega
 have b2:(1:Int)<=(n:Int)+1:=by omega
 have b3:(n:Int)+1<=cap:=by omega
 go_in;go_wp2_with fail;go_still_tail 6,(by kernel_rfl);change wpList _ _ _ _ _ w.drew;have hif:(if cap=1 then (some ⟨g,0,none⟩:Option Addr) else some ⟨g,1,none⟩)=some ⟨g,if cap=1 then 0 else 1,none⟩:=by split<;>rfl
 rw [hif];obtain ⟨i0,hi,hz0,hz1,hz2⟩:=info_parts jR;have hheap:w.drew.heap[g]?=some (.cells cs.toArray 3 (0,0)):=pJ.out;refine pR rfl _ _ 23 rfl 3 i0 Tryz.underlying23 hi hz1 g 0 cap cs.toArray hheap rfl ⟨g,if cap=1 then 0 else 1,none⟩ n (cap - 1) (l.map (.int .i64)) rfl (by simp [HN.out]) (fun j u hu=>?_) (fun u hu=>?_) (by omega) (by simp [HCL.out];omega) ?_
 ·have hj:j<l.length:=by
   have:=(List.getElem?_eq_some_iff.1 hu).1;simpa using this
  have hc1:cap≠1:=by have:=HN.out;omega
  rw [if_neg hc1,dG];refine (pJ.out.drew).cell (1+j) ?_;have h2:(cs.take (n+1))[1+j]?=cs[1+j]?:=by rw [List.getElem?_take_of_lt (by have:=HN.out;omega)]
  rw [<-h2,HTK.out,Nat.add_comm 1 j];exact hu
 ·simp only [List.mem_map] at hu;obtain ⟨y,_,rfl⟩:=hu;rfl
 have hcs0:cs.toArray.toList.take 0 ++ l.map (.int .i64) ++ cs.toArray.toList.drop (0+n)=l.map (.int .i64) ++ cs.drop n:=by simp
 rw [hcs0];have R2:Hid (Row (w.drew.setRow g (l.map (Value.int .i64) ++ cs.drop n).toArray) g 3 (l.map (Value.int .i64) ++ cs.drop n)):=setRow_heap _ g cs.toArray _ _ (0,0) hheap;have HLN:Hid ((l.map (Value.int .i64) ++ cs.drop n).length=cap):=by show _=_;have:=HN.out;have:=HCL.out;simp;omega
 have O2:Hid (Only [g] w (w.drew.setRow g (l.map (Value.int .i64) ++ cs.drop n).toArray)):=⟨rfl,rfl,rfl,by show _<=(w.heap.modify g _).size;rw [Array.size_modify];exact Nat.le_refl _,fun k hk hn=>setRow_other _ g k _ (by simpa using hn)⟩;have HTL:Hid (∀ m,m<n->(l.map (Value.int .i64) ++ cs.drop n)[m]?=some (.int .i64 (gI l m))):=fun m hm=>by
  have:=HN.out;rw [List.getElem?_append_left (by simp;omega),List.getElem?_map];unfold gI;rw [List.getElem?_eq_getElem (by omega)];rfl
 generalize w.drew.setRow g (l.map (Value.int .i64) ++ cs.drop n).toArray=w2 at*;generalize l.map (Value.int .i64) ++ cs.drop n=cs2 at*;generalize (if cap=1 then 0 else 1:Nat)=off1 at*;clear hheap hcs0;have b4:(0:Int)<=(n:Int):=by omega
 have b5:(n:Int)<=(n:Int)+1:=by omega
 have hnn:0+n=n:=by omega
 rw [hnn];have HCC:Hid (∀ m,m<1->(w2.cell? ⟨g,n+m,none⟩).isSome=true):=fun m hm=>by
  rw [R2.out.cell (n+m) (List.getElem?_eq_getElem (by rw [HLN.out];omega))];rfl
 have HFF:Hid (∀ m,m<1->w2.frozen? ⟨g,n+m,none⟩=false):=fun m hm=>R2.out.free _;go_wp2_with (with_reducible refine iT rfl (.tmp 31) 23 3 rfl (.int .i64 0) Tryz.underlying23 aAA rfl rfl g n 1 (cap - n) rfl (by omega) HCC.out HFF.out ?_);obtain ⟨cs',q1,q2,q3⟩:=R2.out.setCells' [Value.int .i64 0] n;have Q1:=aA q1;have Q2:=aA q2;have Q3:=aA q3;have QO:Hid (Only [g] w (w2.setCells g n [Value.int .i64 0])):=O2.out.setCells (.inl (by simp)) _ _;clear q1 q2 q3;generalize w2.setCells g n [Value.int .i64 0]=w3 at*;go_wp2_with fail;have hn:=HN.out;refine hR.out _ _ ⟨_,rfl,?_,rfl,by simpa [Value.ownBlock] using QO.out⟩;rw [hn];exact aO.ofRow hbg Q1.out (by rw [Q2.out];exact HLN.out) (lV (by rw [Q2.out,HLN.out];omega) (fun m hm=>by rw [Q3.out m (by omega)];exact HTL.out m (by omega))) (by omega) hcm
section
variable {l:List Asn} {i j k hb p b:Nat} {m:Mk} {t:Tb} {kk:Nat} {w0 w:World}
theorem aDp (w:World) {ev qv:Value} {mo:Option Nat} (h:lQ w b ev qv mo t kk) (n:Int):Calls prog 24 #[.pointer (some ⟨b,0,none⟩),.int .i64 n] w (fun e w'=>e=.returned (.tuple #[.int .i64 (t.target n).1,.int .i64 (t.target n).2])/\Only [] w w'):=by
 refine aF fun R hR=>?_;have hE:t.target n=((t.entry n).1.tgt,(t.entry n).2):=by unfold Tb.target Tb.entry;split<;>rfl
 rw [hE] at hR;have ca:=aMA w h n;unfold enV at ca;clear hE h;generalize t.entry n=r at*;obtain ⟨en,er⟩:=r;obtain ⟨c0,c1,c2⟩:=en;go_in;go_wp2_with fail;refine ca.mono ?_;rintro e w1 ⟨rfl,ho⟩;have HO3:=aA (ho.alloc (.cells #[.int .i64 c0,.int .i64 c1,.int .i64 c2] 123));have y0:=(Row.new w1 123 [.int .i64 c0,.int .i64 c1,.int .i64 c2]).cell 0 rfl;have y1:=(Row.new w1 123 [.int .i64 c0,.int .i64 c1,.int .i64 c2]).cell 1 rfl;clear ho ca;go_wp2_with fail;exact hR.out _ _ ⟨rfl,HO3.out⟩
theorem aGl (w:World) (n:Nat):Calls prog 160 #[.int .i64 (n:Int)] w (aK w (.int .i64 (if n=4 then 3 else n:Nat))):=by
 refine aF fun R hR=>?_
 by_cases h:n=4
 ·subst h;go_in;go_wp2_with fail;exact hR.out _ _ ⟨rfl,rfl⟩
 rw [if_neg h] at hR;have h2:((n:Int) == 4)=false:=by rw [beq_eq_false_iff_ne];omega
 go_in;go_wp2_with fail;exact hR.out _ _ ⟨rfl,rfl⟩
theorem Mk.aOy (hk:m.M.Ok) (x:Int):m.isW x=(decide (x≠0) && (decide ((m.color x).2=0) && decide ((m.color x).1=0))):=by
 unfold Mk.isW Mk.color
 by_cases h0:x=0
 ·subst h0;rw [aEZ hk];simp
 cases h:(m.M.ob x).isSome<;>simp [h0]
theorem oU (w:World) (T2:fZ l i j) (hf:Fam w0 w (ML l i j hb p m)) (x:Int) (hx:wfI x):Calls prog 151 #[.pointer (some ⟨p,0,none⟩),.int .i64 x] w (Same w (.bool (m.isW x))):=by
 refine aF fun R hR=>?_;have cc:=sG w T2 hf x hx;obtain ⟨hk,_⟩:=ML.ph T2 hf;rw [Mk.aOy hk] at hR;clear hk hf;generalize m.color x=r at*;obtain ⟨c,e⟩:=r
 by_cases h0:x=0
 ·have hh:(decide (x≠0) && (decide (e=0) && decide (c=0)))=false:=by simp [h0]
  simp only at hR;rw [hh] at hR;subst h0;go_in;go_wp2_with fail;refine cc.mono ?_;rintro e _ ⟨rfl,n,rfl⟩;clear cc hh;go_wp2_with fail;exact hR.out _ _ ⟨rfl,n,rfl⟩
 have hx0:(x != 0)=true:=by simp [h0]
 by_cases h1:e=0
 ·by_cases h2:c=0
  ·have hh:(decide (x≠0) && (decide (e=0) && decide (c=0)))=true:=by simp [h0,h1,h2]
   simp only at hR;rw [hh] at hR;subst h1 h2;go_in;go_wp2_with fail;refine cc.mono ?_;rintro e _ ⟨rfl,n,rfl⟩;clear cc hh;go_wp2_with fail;exact hR.out _ _ ⟨rfl,n,rfl⟩
  have hh:(decide (x≠0) && (decide (e=0) && decide (c=0)))=false:=by simp [h2]
  simp only at hR;rw [hh] at hR;subst h1;have hc:(c == 0)=false:=by rw [beq_eq_false_iff_ne];exact h2
  go_in;go_wp2_with fail;refine cc.mono ?_;rintro e _ ⟨rfl,n,rfl⟩;clear cc hh;go_wp2_with fail;exact hR.out _ _ ⟨rfl,n,rfl⟩
 have hh:(decide (x≠0) && (decide (e=0) && decide (c=0)))=false:=by simp [h1]
 simp only at hR;rw [hh] at hR;have hc:(e == 0)=false:=by rw [beq_eq_false_iff_ne];exact h1
 go_in;go_wp2_with fail;refine cc.mono ?_;rintro e _ ⟨rfl,n,rfl⟩;clear cc hh;go_wp2_with fail;exact hR.out _ _ ⟨rfl,n,rfl⟩
theorem aHv (w:World) (T3:Three l i j k) (hf:Fam w0 w (PL l i j k hb p b m t kk)) (hl:t.q.length<=1000000):Calls prog 124 #[.pointer (some ⟨b,0,none⟩)] w (fun e w'=>e=.returned (.tuple #[.int .i64 t.take.1,.int .i64 t.take.2.1])/\Fam w0 w' (PL l i j k hb p b m t.take.2.2 kk)):=by
 refine aF fun R hR=>?_;obtain ⟨ev,qv,mo,ht⟩:=PL.tb T3 hf;obtain ⟨z0,z1,z2,z3,z4,z5,zf⟩:=ht.cells;have hn:=dU w z0;have HT:=aA ht;have HF:=aA hf;unfold Tb.take at hR
 cases e:t.q with
 | nil=>
  rw [e] at hR;have hi:=ht.q;rw [e] at hi;obtain ⟨a,c,rfl⟩:=hi.len;clear ht hi hf;replace z2:w.cell? ⟨b,2,none⟩=some (.slice a 0 c):=z2;go_in;go_wp2_with fail;refine hn.mono ?_;rintro e _ ⟨rfl,rfl⟩;go_wp2_with fail;exact hR.out _ _ ⟨rfl,HF.out⟩
 | cons x r=>
  rw [e] at hR;have hi:=ht.q;rw [e] at hi;have hrl:r.length<=1000000:=by rw [e] at hl;simp at hl;omega
  have cd:=aLw w 0 qv x r hi hrl;obtain ⟨a,c,hqv⟩:=hi.len;subst hqv;obtain ⟨g,o,rfl,hc⟩:=hi.read.at (k:=0) (by simp);rw [Nat.add_zero] at hc;replace hc:w.cell? ⟨g,o,none⟩=some (.int .i64 x):=hc;replace z2:w.cell? ⟨b,2,none⟩=some (.slice (some ⟨g,o,none⟩) (r.length+1) c):=z2;replace cd:Calls prog 197 #[.slice (some ⟨g,o,none⟩) (r.length+1) c,.int .i64 0,.int .i64 1] w fun e w'=>∃ v',e=.returned v'/\aO w' 0 v' r/\v'.ownBlock=(Value.slice (some ⟨g,o,none⟩) (r.length+1) c).ownBlock/\Only (Value.slice (some ⟨g,o,none⟩) (r.length+1) c).ownBlock.toList w w':=cd;obtain ⟨n,hnn⟩:∃ n,n=r.length:=⟨_,rfl⟩;rw [<-hnn] at z2 cd;have HN:=aA hnn;have hn1:((n:Int)+1 == 0)=false:=by rw [beq_eq_false_iff_ne];omega
  have hn2:(0:Int)<(n:Int)+1:=by omega
  clear hi hnn hl hrl ht hf;go_in;go_wp2_with fail;refine hn.mono ?_;rintro e _ ⟨rfl,rfl⟩;go_wp2_with fail;refine cd.mono ?_;rintro e w2 ⟨v',rfl,hi2,hown,ho⟩;have hog:Only [g] w w2:=ho;have hgb:g≠b:=(HT.out.n2 g rfl).1;have hR2:∃ U,Row w2 b U [.bool true,ev,.slice (some ⟨g,o,none⟩) (r.length+1) c,.int .i64 (t.ph:Int),.int .i64 (t.nx:Int),.map mo]:=HT.out.row.imp fun U x=>hog.row x (by simp;exact fun e=>hgb e.symm);have hz:w2.cell? ⟨b,2,none⟩=some (.slice (some ⟨g,o,none⟩) (n+1) c)/\w2.frozen? ⟨b,2,none⟩=false:=by
   obtain ⟨U,x⟩:=hR2;exact ⟨by rw [HN.out];exact x.cell 2 rfl,x.free 2⟩
  obtain ⟨y2,yf⟩:=hz;have HFN:Hid (Fam w0 (w2.setCell ⟨b,2,none⟩ v') (PL l i j k hb p b m ⟨t.ents,r,t.ph,t.nx,t.fd⟩ kk)):=by
   have hs:Only [b] w2 (w2.setCell ⟨b,2,none⟩ v'):=(Only.refl _ w2).set (.inl (by simp)) _;have hP:Only [b,g] w (w2.setCell ⟨b,2,none⟩ v'):=(hog.mono (by simp)).set (.inl (by simp)) _;have ho2:∀ x,v'.ownBlock=some x->x=g:=fun x hx=>by rw [hown] at hx;cases hx;rfl
   refine PL.tbT T3 HF.out HT.out ev v' mo _ _ ⟨hR2.imp fun U x=>x.set 2 _,HT.out.ents.only hP (fun x hx=>?_),hi2.only hs (fun x hx=>?_),fun mb e=>?_,HT.out.two,fun x hx=>⟨(HT.out.n1 x hx).1,(HT.out.n1 x hx).2.1,fun e=>?_⟩,fun x hx=>?_,HT.out.n3⟩ (fun x hx=>?_) (hP.toP (fun x hx=>?_))
   ·have:=HT.out.n1 x hx;simp only [List.mem_cons,List.not_mem_nil,or_false,not_or];exact ⟨this.1,fun e=>this.2.2 (by rw [e];rfl)⟩
   ·rw [ho2 x hx];simpa using hgb
   ·obtain ⟨n,f,h1,h2⟩:=HT.out.fnd mb e;refine ⟨n,f,h1.only (hP.toP (S:=fun x=>x=b\/x=g) (fun x hx=>.inl (by simpa using hx))) ?_,h2⟩;rintro (rfl|rfl)
    ·exact HT.out.n3 e
    exact (HT.out.n2 mb rfl).2 e
   ·have h3:=ho2 x e;exact (HT.out.n1 x hx).2.2 (by rw [h3];rfl)
   ·rw [ho2 x hx];exact HT.out.n2 g rfl
   ·rcases hx with hx|hx|hx|hx
    ·exact .inl (.inl hx)
    ·exact .inl (.inr (.inl hx))
    ·exact .inl (.inr (.inr (.inl (by rw [ho2 x hx];rfl))))
    exact .inl (.inr (.inr (.inr hx)))
   simp only [List.mem_cons,List.not_mem_nil,or_false] at hx;rcases hx with rfl|rfl
   ·exact .inl (.inl rfl)
   exact .inl (.inr (.inr (.inl rfl)))
  obtain ⟨a3,c3,rfl⟩:=hi2.len;clear hi2 hown ho hog hR2 cd;generalize r.length=n3 at*;go_wp2_with fail;exact hR.out _ _ ⟨rfl,HFN.out⟩
end
theorem aKh (w:World):Calls prog 84 #[] w (fun e w'=>e=.returned (.pointer (some ⟨w.heap.size,0,none⟩))/\w'=w.alloc (.cells #[.bool true,.slice none 0 0,.slice none 0 0,.int .i64 0,.int .i64 0,.map none] 119)):=by
 refine aF fun R hR=>?_;go_in;go_wp2_with fail;exact hR.out _ _ ⟨rfl,rfl⟩
theorem aMz (w:World):aFq w (w.alloc (.cells #[.bool true,.slice none 0 0,.slice none 0 0,.int .i64 0,.int .i64 0,.map none] 119)) (TbA w.heap.size Tb.new 0):=
 ⟨(Only.refl [] w).alloc _,fun k=>k=w.heap.size\/(Value.slice none 0 0).ownBlock=some k\/(Value.slice none 0 0).ownBlock=some k\/(none:Option Nat)=some k,⟨.slice none 0 0,.slice none 0 0,none,⟨⟨_,Row.new w _ _⟩,iF.nil _ _ _,aO.nil _ _,fun mb e=>by (cases e),fun _ h=>by omega,fun g hg=>by (cases hg),fun g hg=>by (cases hg),fun e=>by (cases e)⟩,fun k=>Iff.rfl⟩,fun k hk=>by
  rcases hk with hk|hk|hk|hk
  ·omega
  ·cases hk
  ·cases hk
  cases hk⟩
theorem aHh {w:World} {ops:Array Oper} {rest:List Oper} {o:Oper} {a:Act} {Q:Exit->Act->World->Prop} (hgd:o.guard=none) (s x:Operand)
  (ho:o.op=.call { callee:=.builtin .append,args:=#[s,x],argTypes:=#[117,117] })
  (v:Value) (l:List En) (hs:a.eval s=v) (hown:iF w 123 0 v l)
  (bk U:Nat) (y:En) (hx:a.eval x=.slice (some ⟨bk,0,none⟩) 1 1) (hnews:Row w bk U (enC y)) (hbytes:l.length<=1000000)
  (h:∀ v' w',iF w' 123 0 v' (l ++ [y])->Only v.ownBlock.toList w w'->(v'.ownBlock=v.ownBlock\/v'.ownBlock=some w.heap.size)->wpList prog ops Q rest (a.put o.dst v') w'):wpList prog ops Q (o :: rest) a w:=by
 obtain ⟨i0,hi,hz0,hz1,hz2⟩:=info_parts aIF;refine bP hgd s x 117 ho 0 123 i0 _ 3 24 Tryz.underlying117 hi hz0 hz1 hz2 rfl (by decide) v l.length _ hs hown ⟨bk,0,none⟩ 1 1 (enC y) hx (by simp [enC])
  (fun j u hu=>?_) (fun u hu=>?_) (by simp only [maxLen];omega) (by omega) (Nat.zero_le _) (fun v' w' h1 h2 h3 h5=>h v' w' ?_ ?_ h5)
 ·rw [dG];exact hnews.cell _ (by rw [Nat.zero_add];exact hu)
 ·simp only [enC,List.mem_cons,List.not_mem_nil,or_false] at hu;rcases hu with rfl|rfl|rfl<;>rfl
 ·unfold iF;rw [List.length_append,yN];have:dB [y]=enC y:=by simp [dB]
  rw [this];exact h1
 exact (Only.refl _ _).grown h2 (fun k hk=>.inl (by rw [hk];simp))
theorem aPq (w:World) (mv:Value) (kd x g:Int):Calls prog 85 #[.pointer none,mv,.int .i64 kd,.int .i64 x,.int .i64 g] w (aK w (.tuple #[.int .i64 0,.int .i64 1])):=by
 refine aF fun R hR=>?_;go_in;go_wp2_with fail;refine (aBB _).mono ?_;rintro e _ ⟨rfl,rfl⟩;go_wp2_with fail;exact hR.out _ _ ⟨rfl,rfl⟩
section
variable {l:List Asn} {i j k hb p b:Nat} {m:Mk} {t:Tb} {kk:Nat} {w0 w:World}
theorem PL.aQU (T3:Three l i j k) {ev qv:Value} {mo:Option Nat} (hf:Fam w0 w (PL l i j k hb p b m t kk)) (ht:lQ w b ev qv mo t kk) {w2:World} {v':Value} {y:En} (he:iF w2 123 0 v' (t.ents ++ [y])) (ho:Only ev.ownBlock.toList w w2) (hb2:v'.ownBlock=ev.ownBlock\/∃ g,v'.ownBlock=some g/\w.heap.size<=g) :
  w2.cell? ⟨b,1,none⟩=some ev/\w2.frozen? ⟨b,1,none⟩=false/\Fam w0 (w2.setCell ⟨b,1,none⟩ v') (PL l i j k hb p b m ⟨t.ents ++ [y],t.q,t.ph,t.nx,t.fd⟩ kk):=by
 have hbl:b<w.heap.size:=by obtain ⟨U,hr⟩:=ht.row;exact hr.lt
 have hrow:∃ U,Row w2 b U [.bool true,ev,qv,.int .i64 (t.ph:Int),.int .i64 (t.nx:Int),.map mo]:=ht.row.imp fun U x=>ho.row x (fun hm=>(ht.n1 b (jO hm)).1 rfl);have hP:aI (fun x=>x=b\/ev.ownBlock=some x) w (w2.setCell ⟨b,1,none⟩ v'):=((ho.toP (S:=fun x=>x=b\/ev.ownBlock=some x) (fun x hx=>.inl (.inr (jO hx))))).set (.inl (.inl rfl)) _;have hs:Only [b] w2 (w2.setCell ⟨b,1,none⟩ v'):=(Only.refl _ w2).set (.inl (by simp)) _;have hnb:∀ g,v'.ownBlock=some g->g≠b/\mo≠some g/\qv.ownBlock≠some g:=fun g hg=>by
  rcases hb2 with h|⟨g2,h,h2⟩
  ·exact ht.n1 g (by rw [<-h];exact hg)
  rw [h] at hg
  cases hg
  refine ⟨by omega,fun e=>?_,fun e=>?_⟩
  ·obtain ⟨n,f,h1,_⟩:=ht.fnd _ e;have:=h1.lt;omega
  have:=(ht.q.own _ e).2;omega
 obtain ⟨U,hr⟩:=hrow;refine ⟨hr.cell 1 rfl,hr.free 1,PL.tbT T3 hf ht v' qv mo _ _ ⟨⟨U,hr.set 1 _⟩,he.only hs (fun x hx=>by have:=(hnb x hx).1;simpa using this),ht.q.bW hP (fun x hx=>?_),fun mb e=>?_,ht.two,hnb,ht.n2,ht.n3⟩ (fun x hx=>?_) (hP.mono (fun x hx=>.inl ?_))⟩
 ·rintro (h|h)
  ·exact (ht.n2 x hx).1 h
  exact (ht.n1 x h).2.2 hx
 ·obtain ⟨n,f,h1,h2⟩:=ht.fnd mb e;refine ⟨n,f,h1.only hP ?_,h2⟩;rintro (h|h)
  ·exact ht.n3 (by rw [<-h];exact e)
  exact (ht.n1 mb h).2.1 e
 ·rcases hx with hx|hx|hx|hx
  ·exact .inl (.inl hx)
  ·rcases hb2 with h|⟨g2,h,h2⟩
   ·exact .inl (.inr (.inl (by rw [<-h];exact hx)))
   rw [h] at hx;cases hx;exact .inr h2
  ·exact .inl (.inr (.inr (.inl hx)))
  exact .inl (.inr (.inr (.inr hx)))
 rcases hx with hx|hx
 ·exact .inl hx
 exact .inr (.inl hx)
theorem aEA (w:World) (T3:Three l i j k) (hf:Fam w0 w (PL l i j k hb p b m t kk)) (kd x g:Int) (hx:wfI x):Calls prog 85 #[.pointer (some ⟨b,0,none⟩),.pointer (some ⟨p,0,none⟩),.int .i64 kd,.int .i64 x,.int .i64 g] w (fun e w'=>e=.returned (.tuple #[.int .i64 (t.add m kd x g).1,.int .i64 (t.add m kd x g).2.1])/\Fam w0 w' (PL l i j k hb p b m (t.add m kd x g).2.2 kk)):=by
 refine aF fun R hR=>?_;obtain ⟨ev,qv,mo,ht⟩:=PL.tb T3 hf;obtain ⟨z0,z1,z2,z3,z4,z5,zf⟩:=ht.cells;have hn:=dU w z0;have cc:=sG w T3.t2 hf x hx;have HT:=aA ht;have HF:=aA hf;unfold Tb.add at hR;clear z1 z2 z3 z4 z5 zf z0
 by_cases h1:kd<1\/3<kd
 ·rw [if_pos h1] at hR;clear hf ht cc
  by_cases h2:kd<1
  ·clear h1;go_in;go_wp2_with fail;refine hn.mono ?_;rintro e _ ⟨rfl,rfl⟩;go_wp2_with fail;exact hR.out _ _ ⟨rfl,HF.out⟩
  have h3:=h1.resolve_left h2;clear h1;go_in;go_wp2_with fail;refine hn.mono ?_;rintro e _ ⟨rfl,rfl⟩;go_wp2_with fail;exact hR.out _ _ ⟨rfl,HF.out⟩
 rw [if_neg h1] at hR;have h2:¬ kd<1:=fun h=>h1 (.inl h);have h3:¬ 3<kd:=fun h=>h1 (.inr h);clear h1;have aDh:m.color x=if (m.M.ob x).isSome then (m.col x,0) else (0,3):=rfl
 by_cases hp:t.ph=0
 rotate_left
 ·rw [if_pos hp] at hR;generalize hcv:m.color x=r at*;obtain ⟨c1,c2⟩:=r;have hc2:c2=0\/c2=3:=by
   split at aDh<;>cases aDh
   ·exact .inl rfl
   exact .inr rfl
  have hc1:(c2 == 1)=false:=by rcases hc2 with h|h<;>rw [h]<;>rfl
  have hp1:(0:Int)<(t.ph:Int):=by omega
  have HC:Hid (∀ n,(w.drewN n).cell? ⟨b,3,none⟩=some (.int .i64 (t.ph:Int))):=fun n=>(HT.out.cells).2.2.2.1;clear hf ht aDh hcv hc2 hp;generalize t.ph=ph at*;go_in;go_wp2_with fail;refine hn.mono ?_;rintro e _ ⟨rfl,rfl⟩;go_wp2_with fail;refine cc.mono ?_;rintro e _ ⟨rfl,n,rfl⟩;have y3:=HC.out n;clear cc;go_wp2_with fail;exact hR.out _ _ ⟨rfl,HF.out.drewN n⟩
 rw [if_neg (fun h=>h hp)] at hR
 cases hs:(m.M.ob x).isSome with
 | false=>
  rw [if_pos hs] at hR;rw [aDh,hs] at cc;have HC:Hid (∀ n,(w.drewN n).cell? ⟨b,3,none⟩=some (.int .i64 0)):=fun n=>by
   have:=(HT.out.cells).2.2.2.1;rw [hp] at this;exact this
  clear hf ht aDh hp;go_in;go_wp2_with fail;refine hn.mono ?_;rintro e _ ⟨rfl,rfl⟩;go_wp2_with fail;refine cc.mono ?_;rintro e _ ⟨rfl,n,rfl⟩;have y3:=HC.out n;clear cc;go_wp2_with fail;exact hR.out _ _ ⟨rfl,HF.out.drewN n⟩
 | true=>
  rw [if_neg (by rw [hs];simp)] at hR;rw [aDh,hs] at cc;obtain ⟨a,c,hev⟩:=HT.out.ents.len;have HC:Hid (∀ n,(w.drewN n).cell? ⟨b,3,none⟩=some (.int .i64 0)):=fun n=>by
   have:=(HT.out.cells).2.2.2.1;rw [hp] at this;exact this
  have HC1:Hid (∀ n,(w.drewN n).cell? ⟨b,1,none⟩=some ev):=fun n=>(HT.out.cells).2.1;clear aDh hp
  by_cases hle:20<=t.ents.length
  ·rw [if_pos hle] at hR;have hl2:(20:Int)<=(t.ents.length:Int):=by omega
   subst hev;clear hf ht hle;generalize t.ents.length=len at*;go_in;go_wp2_with fail;refine hn.mono ?_;rintro e _ ⟨rfl,rfl⟩;go_wp2_with fail;refine cc.mono ?_;rintro e _ ⟨rfl,n,rfl⟩;have y3:=HC.out n;have y1:=HC1.out n;clear cc;go_wp2_with fail;exact hR.out _ _ ⟨rfl,HF.out.drewN n⟩
  rw [if_neg hle] at hR;have hl2:¬ (20:Int)<=(t.ents.length:Int):=by omega
  have hlm:t.ents.length<=1000000:=by omega
  have HLM:=aA hlm;have HE:=aA HT.out.ents;subst hev;clear hf ht hle hlm;obtain ⟨len,hlen⟩:∃ n,n=t.ents.length:=⟨_,rfl⟩;rw [<-hlen] at hR hl2 HC1;have HLEN:=aA hlen;clear hlen;go_in;go_wp2_with fail;refine hn.mono ?_;rintro e _ ⟨rfl,rfl⟩;go_wp2_with fail;refine cc.mono ?_;rintro e _ ⟨rfl,n,rfl⟩;have y3:=HC.out n;have y1:=HC1.out n;have HF2:=aA (HF.out.drewN n);have HT2:=aA (HT.out.aN ((Only.refl [] w).drewN n));clear cc;generalize w.drewN n=w1 at*;have HY:Hid (Row (w1.alloc (.cells #[.int .i64 kd,.int .i64 x,.int .i64 g] 123)) w1.heap.size 123 (enC ⟨kd,x,g⟩)):=Row.new w1 _ _;have HF3:=aA (HF2.out.alloc (.cells #[.int .i64 kd,.int .i64 x,.int .i64 g] 123));have HT3:=aA (HT2.out.aN ((Only.refl [] w1).alloc (.cells #[.int .i64 kd,.int .i64 x,.int .i64 g] 123)));go_wp2_with (at_builtin;refine aHh rfl _ _ rfl _ t.ents (by rw [<-HLEN.out];rfl) HT3.out.ents _ _ ⟨kd,x,g⟩ rfl HY.out (by have:=HLM.out;have:=HLEN.out;omega) ?_);intro v' w2 he ho hb2;have hb3:v'.ownBlock=(Value.slice a t.ents.length c).ownBlock\/∃ g2,v'.ownBlock=some g2/\(w1.alloc (.cells #[.int .i64 kd,.int .i64 x,.int .i64 g] 123)).heap.size<=g2:=hb2.imp id (fun h=>⟨_,h,by simp⟩);have hA:=PL.aQU T3 HF3.out HT3.out he ho hb3;obtain ⟨q1,q2,q3⟩:=hA;rw [<-HLEN.out] at q1;have HQ:=aA q3;have HL2:Hid ((t.ents ++ [⟨kd,x,g⟩]:List En).length=len+1):=by show _=_;rw [List.length_append,HLEN.out];rfl
  obtain ⟨a2,c2,hv2⟩:=he.len;rw [HL2.out] at hv2;subst hv2;clear he ho hb2 hb3 q3;have hnum:(len:Int)+1 - 1=len:=by omega
  go_wp2_with fail;exact hR.out _ _ ⟨rfl,HQ.out⟩
end
end Go.Proofs.YthflghdaejbdkaaGreat
