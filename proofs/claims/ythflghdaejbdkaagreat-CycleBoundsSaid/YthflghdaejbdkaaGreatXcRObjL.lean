/- Lemmas of this claim. -/
import Derived.Test.YthflghdaejbdkaaGreatXcRObjH
import Derived.Deep.AppendLies
import Derived.Deep.Upon
namespace Go.Proofs.YthflghdaejbdkaaGreat
open _root_.Go.Proofs.Tryz (prog)
open Go.RowKit Go.Maps
set_option maxHeartbeats 6400000
set_option maxRecDepth 100000
set_option linter.unusedVariables false
theorem aIL {ops:Array Oper} {o:Oper} {ac:Act} {wl:World} {K:Act->World->Prop} {Q:Exit->Act->World->Prop} {E:Prop} (h0:o.guard=none) (s x:Operand)
  (ho:o.op=.call { callee:=.builtin .append,args:=#[s,x],argTypes:=#[50,50] }) (w0:World) (hO:Only [] w0 wl)
  (e:Nat) (hs:ac.eval s=.slice (some ⟨e,0,none⟩) 0 0) (z:Bls wl w0.heap.size (.slice (some ⟨e,0,none⟩) 0 0) []) (ad:Addr) (m c:Nat) (l:List Bool) (hx:ac.eval x=.slice (some ad) m c) (hl:l.length=m) (d:∀ i,i<l.length->w0.cell? (ad.add i)=some (.bool (gB l i))) (hm:0<m) (hb:m<=1000000)
  (h:∀ g cap w',Hid (Bls w' w0.heap.size (.slice (some ⟨g,0,none⟩) m cap) l)->Hid (Only [] w0 w')->Hid (Only [e] wl w')->Hid (g=e\/g=wl.heap.size)->K (ac.put o.dst (.slice (some ⟨g,0,none⟩) m cap)) w') :
  if Region.wanted o (yielded ops ac.tmps)=true then Oper.wp prog o ac wl K Q else E:=by
 obtain ⟨i0,h5,h6,h7,h8⟩:=info_parts wP;refine step_append_lies (P:=prog) _ h0 s x 50 ho w0.heap.size 4 i0 (.bool false) 1 1 Tryz.underlying50 h5 h6 h7 h8 rfl (by omega) (.slice (some ⟨e,0,none⟩) 0 0) 0 [] hs z ad m c (l.map Value.bool) hx (by simp [hl]) (fun j u hu=>?_) (fun u hu=>?_) hm (by simp only [maxLen];omega) (by omega) hO.size wl.heap.size rfl ?_
 ·simp only [List.getElem?_map,Option.map_eq_some_iff] at hu;obtain ⟨y,hy,rfl⟩:=hu;have hj:=(List.getElem?_eq_some_iff.1 hy).1;have h1:=d j hj;rw [gB,hy] at h1;exact hO.cell h1 (by simp)
 ·simp only [List.mem_map] at hu;obtain ⟨y,_,rfl⟩:=hu;rfl
 intro g cap w' h1 h2 h3 h4;rw [Nat.zero_add] at h1 ⊢;refine h g cap w' ?_ (hO.grown h2 (fun k hk=>.inr (z.own k hk).1)) ((Only.refl [e] wl).grown h2 (fun k hk=>by cases hk;exact .inl (by simp))) ?_
 ·show Bls _ _ _ _;unfold Bls;rw [hl];exact h1
 show _\/_;rcases h3 with h3|h3
 ·cases h3;exact .inl rfl
 exact .inr h3
theorem qP {ops:Array Oper} {o:Oper} {ac:Act} {wl:World} {K:Act->World->Prop} {Q:Exit->Act->World->Prop} {E:Prop} (h3:o.guard=none) (s x:Operand)
  (ho:o.op=.call { callee:=.builtin .append,args:=#[s,x],argTypes:=#[50,50] }) (w0:World) (hO:Only [] w0 wl)
  (z:Nat) (hs:ac.eval s=.slice (some ⟨z,0,none⟩) 0 0) (y:Bls wl w0.heap.size (.slice (some ⟨z,0,none⟩) 0 0) []) (va:Option Addr) (n d:Nat) (l:List Bool) (hx:ac.eval x=.slice va n d) (hl:l.length=n) (hv:aAw w0 (.slice va n d) l) (hb:n<=1000000)
  (h:∀ g cap w',Hid (Bls w' w0.heap.size (.slice (some ⟨g,0,none⟩) n cap) l)->Hid (Only [] w0 w')->Hid (Only [z] wl w')->Hid (g=z\/g=wl.heap.size)->K (ac.put o.dst (.slice (some ⟨g,0,none⟩) n cap)) w') :
  if Region.wanted o (yielded ops ac.tmps)=true then Oper.wp prog o ac wl K Q else E:=by
 by_cases h0:n=0
 ·subst h0;have h4:l=[]:=List.eq_nil_of_length_eq_zero hl;subst h4;have hw:Region.wanted o (yielded ops ac.tmps)=true:=by simp [Region.wanted,h3]
  rw [if_pos hw];obtain ⟨i0,h6,h7,h8,h9⟩:=info_parts wP;have h5:Src prog i0.size 50 (.slice va 0 d) 0 [] wl:=by
   cases va with
   | none=>exact Src.ofNil wl Tryz.underlying50 d
   | some a=>exact Src.ofSlice wl Tryz.underlying50 a 0 d [] (by simp) (fun j u hu=>by simp at hu) (fun u hu=>by simp at hu)
  have hr:=run_append_nothing (P:=prog) wl 50 50 o.type 4 i0 Tryz.underlying50 h6 (some ⟨z,0,none⟩) 0 0 (Nat.le_refl _) (.slice va 0 d) h5;unfold Oper.wp execOp;simp only [ho,resolve,invoke,builtin,Sem.run_bind,Sem.run_pure,Result.andThen_ok,List.map_toArray,List.map_cons,List.map_nil,hs,hx,hr];exact h z 0 wl y hO (Only.refl _ _) (.inl rfl)
 rcases hv with ⟨_,e⟩|⟨ad,c,h1,h2⟩
 ·rw [e] at hl;simp at hl;omega
 simp only [Value.slice.injEq] at h1;obtain ⟨rfl,_,rfl⟩:=h1;exact aIL h3 s x ho w0 hO z hs y ad n d l hx hl h2 (by omega) hb h
theorem aPi (w:World):Bls (w.alloc (.cells #[] 4)).drew w.heap.size (.slice (some ⟨w.heap.size,0,none⟩) 0 0) []:=Bls.made w
theorem aPh (w:World) (C:Array Value) (T:TypeId):Bls ((w.alloc (.cells #[] 4)).alloc (.cells C T)).drew w.heap.size (.slice (some ⟨w.heap.size,0,none⟩) 0 0) []:=(Bls.made w).alloc _
theorem aPg (w:World) (C:Array Value) (T:TypeId):Bls ((w.alloc (.cells C T)).alloc (.cells #[] 4)).drew w.heap.size (.slice (some ⟨w.heap.size+1,0,none⟩) 0 0) []:=by
 have:=(Bls.made (w.alloc (.cells C T))).base (b:=w.heap.size) (by simp);rw [World.size_alloc] at this;exact this
theorem aOt (w:World) (o:Obj):Only [] w (w.alloc o).drew:=((Only.refl [] w).alloc o).drew
theorem aFF (w:World) (o o':Obj):Only [] w ((w.alloc o).alloc o').drew:=(((Only.refl [] w).alloc o).alloc o').drew
theorem qO (w:World) (n:Nat) (d:n<=1000000) (C:Array Value) (y:C.toList=List.replicate n (.int .i64 0)):aK (w.alloc (.cells C 3)) w.heap.size (.slice (some ⟨w.heap.size,0,none⟩) n n) (List.replicate n 0):=by
 have z:=Row.new w 3 C.toList;have h:=aK.ofRow (base:=w.heap.size) (cap:=n) (l:=List.replicate n 0) (Nat.le_refl _) z (by rw [y];simp) (by rw [y];simp) (by simp) (by simp only [maxLen];omega);rw [List.length_replicate] at h;exact h
section
variable {L:Nat->Option Gb} {hb:Nat} {M:Hp} {X:GX}
theorem aLj (w:World) (c:Int) (v:Value):Calls prog 143 #[.pointer none,.int .i64 c,v] w (aO w (.tuple #[.int .i64 0,.int .i64 1])):=by
 refine aF fun R z=>?_;have y:=uM w;go_in;go_wp2_with fail;refine y.mono ?_;rintro e _ ⟨rfl,rfl⟩;go_wp2;exact z.out _ _ ⟨rfl,rfl⟩
theorem pK (w:World) (h:bH w L hb M X) (d:M.Ok) (c:Int) (v:Value) (l:List Bool) (hv:aAw w v l) (hl:l.length<=1000000) :
  Calls prog 143 #[.pointer (some ⟨hb,0,none⟩),.int .i64 c,v] w (lM w L hb (.tuple #[.int .i64 (M.aH c l).1,.int .i64 (M.aH c l).2.1]) (M.aH c l).2.2):=by
 refine aF fun R hR=>?_;have h1:=fM w h;obtain ⟨va,vc,rfl⟩:=hv.len;obtain ⟨n,hn⟩:∃ z,z=l.length:=⟨_,rfl⟩
 by_cases hc:c<0\/10<=c\/7<l.length
 ·have h5:Hid (M.aH c l=(0,1,M)):=by show _=_;unfold Hp.aH;rw [if_pos hc]
  have H:=aA h;rw [<-hn] at hc hl ⊢;clear hv h d hn
  by_cases c1:c<0
  ·clear hc;go_in;go_wp2_with fail;refine h1.mono ?_;rintro e _ ⟨rfl,rfl⟩;go_wp2_with fail;refine hR.out _ _ ?_;rw [h5.out];exact lM.none0 H.out (Only.refl _ _)
  by_cases c2:10<=c
  ·clear hc;go_in;go_wp2_with fail;refine h1.mono ?_;rintro e _ ⟨rfl,rfl⟩;go_wp2_with fail;refine hR.out _ _ ?_;rw [h5.out];exact lM.none0 H.out (Only.refl _ _)
  have c3:(7:Int)<n:=by omega
  clear hc;go_in;go_wp2_with fail;refine h1.mono ?_;rintro e _ ⟨rfl,rfl⟩;go_wp2_with fail;refine hR.out _ _ ?_;rw [h5.out];exact lM.none0 H.out (Only.refl _ _)
 have c1:¬ c<0:=by omega
 have c2:¬ 10<=c:=by omega
 have c3:¬ (7:Int)<n:=by omega
 have h6:M.aH c l=M.add (vI c l):=by unfold Hp.aH;rw [if_neg hc]
 have h8:=pX hc;rw [h6] at hR;obtain ⟨i0,x2,x6,h9,x7⟩:=info_parts jV;obtain ⟨C,hC⟩:∃ C:Array Value,C.toList=List.replicate n (.int .i64 0):=⟨(List.replicate n (.int .i64 0)).toArray,by simp⟩;have y2:∀ y,(Instr.makeSlice 23 (.int .i64 (n:Int)) (.int .i64 (n:Int))).run prog y=.ok (.slice (some ⟨y.heap.size,0,none⟩) n n) (y.alloc (.cells C 3)):=fun y=>by
  rw [run_makeSlice (P:=prog) (w:=y) 23 3 i0 _ Tryz.underlying23 x2 x6 .i64 .i64 _ _ (by omega) (by omega) (by rw [h9];omega) (by rw [x7];omega) (by omega),h9];have e:madeCells (Value.int .i64 0).cells (n*1)=C:=by
   rw [<-Array.toList_inj,yP,hC]
  simp only [Int.toNat_natCast];rw [e]
 have vF:Hid (∀ y (rv sv:Value),Only [] w y->Bls y w.heap.size rv l->aK y w.heap.size sv (List.replicate n 0)->(∀ g,rv.ownBlock=some g->sv.ownBlock≠some g)->
   Calls prog 211 #[.pointer (some ⟨hb,0,none⟩),.agg #[.int .i64 2,.int .i64 c,rv,sv,.slice none 0 0],.bool false] y (lM w L hb (.tuple #[.int .i64 (M.add (vI c l)).1,.int .i64 (M.add (vI c l)).2.1]) (M.add (vI c l)).2.2)):=fun y rv sv ho y1 x5 hd=>
  aDv y h d ho (vI c l) h8.1 h8.2 rv sv y1 (by rw [hn] at x5;exact x5) hd false (fun _=>by simp [vI];omega)
 have HC:=aA hC;have h0:n<=1000000:=by omega
 rw [<-hn] at hv hl ⊢;clear h d h8 h6 hc x2 x6 h9 x7 hC hl;obtain ⟨F,hF⟩:∃ F:Ending->World->Prop,F=lM w L hb (.tuple #[.int .i64 (M.add (vI c l)).1,.int .i64 (M.add (vI c l)).2.1]) (M.add (vI c l)).2.2:=⟨_,rfl⟩;rw [<-hF] at vF;replace hR:Hid (∀ e w',F e w'->R e w'):=by rw [hF];exact hR
 have x1:Hid (∀ e w',F e w'->e=.returned (.tuple #[.int .i64 (M.add (vI c l)).1,.int .i64 (M.add (vI c l)).2.1])):=fun e w' he=>by rw [hF] at he;exact he.1
 clear hF;obtain ⟨r0,x3⟩:∃ z,z=(M.add (vI c l)).1:=⟨_,rfl⟩;obtain ⟨r1,x4⟩:∃ z,z=(M.add (vI c l)).2.1:=⟨_,rfl⟩;rw [<-x3,<-x4] at x1;clear x3 x4;have h7:Hid (l.length=n):=hn.symm;have HV:=aA hv;have y0:Hid (∀ g cap y,Hid (Bls y w.heap.size (.slice (some ⟨g,0,none⟩) n cap) l)->Hid (Only [] w y)->
   Calls prog 211 #[.pointer (some ⟨hb,0,none⟩),.agg #[.int .i64 2,.int .i64 c,.slice (some ⟨g,0,none⟩) n cap,.slice (some ⟨y.heap.size,0,none⟩) n n,.slice none 0 0],.bool false] (y.alloc (.cells C 3)) F):=fun g cap y h1 h2=>by
  refine vF.out _ _ _ (h2.out.alloc _) (h1.out.alloc _) ((qO y n h0 C HC.out).base h2.out.size) (fun k d=>?_)
  cases d
  have:=(h1.out.own g rfl).2;simp [Value.ownBlock];omega
 have x9:Hid (∀ g cap y,Hid (Bls y w.heap.size (.slice (some ⟨g,0,none⟩) n cap) l)->Hid (Only [] w y)->Hid (Only [w.heap.size] ((w.alloc (.cells #[] 4)).alloc (.cells C 3)).drew y)->Hid (g=w.heap.size\/g=((w.alloc (.cells #[] 4)).alloc (.cells C 3)).drew.heap.size)->
   Calls prog 211 #[.pointer (some ⟨hb,0,none⟩),.agg #[.int .i64 2,.int .i64 c,.slice (some ⟨g,0,none⟩) n cap,.slice (some ⟨w.heap.size+1,0,none⟩) n n,.slice none 0 0],.bool false] y F):=fun g cap y h1 h2 h3 h4=>by
  have hz:=qO (w.alloc (.cells #[] 4)) n h0 C HC.out;rw [World.size_alloc] at hz;refine vF.out _ _ _ h2.out h1.out (((hz.base (b:=w.heap.size) (by omega)).drew).only h3.out (fun k d=>?_)) (fun k d=>?_)
  ·cases d;simp
  cases d
  have:=h4.out;simp [Value.ownBlock] at this ⊢;omega
 have x8:Hid (∀ g cap y,Hid (Bls y w.heap.size (.slice (some ⟨g,0,none⟩) n cap) l)->Hid (Only [] w y)->Hid (Only [w.heap.size+1] ((w.alloc (.cells C 3)).alloc (.cells #[] 4)).drew y)->Hid (g=w.heap.size+1\/g=((w.alloc (.cells C 3)).alloc (.cells #[] 4)).drew.heap.size)->
   Calls prog 211 #[.pointer (some ⟨hb,0,none⟩),.agg #[.int .i64 2,.int .i64 c,.slice (some ⟨g,0,none⟩) n cap,.slice (some ⟨w.heap.size,0,none⟩) n n,.slice none 0 0],.bool false] y F):=fun g cap y h1 h2 h3 h4=>by
  have hz:=((qO w n h0 C HC.out).alloc (.cells #[] 4)).drew;refine vF.out _ _ _ h2.out h1.out (hz.only h3.out (fun k d=>?_)) (fun k d=>?_)
  ·cases d;simp
  cases d
  have:=h4.out;simp [Value.ownBlock] at this ⊢;omega
 clear hv hn vF;go_in;go_wp2_with fail;refine h1.mono ?_;rintro e _ ⟨rfl,rfl⟩;go_wp2_with fail;clear h1;go_region_held3 (fun _=>True)
  (exact trivial)
  (first
   | (refine qP (by rfl) (.tmp 26) (.tmp 27) (by rfl) w (by with_reducible exact aOt w _) w.heap.size (by rfl) (by with_reducible exact aPi w) va n vc l (by rfl) h7.out HV.out h0 ?_;intro g cap w9 k1 k2 k3 k4;have HM:=y0.out g cap w9 k1 k2)
   | (refine qP (by rfl) (.tmp 26) (.tmp 27) (by rfl) w (by with_reducible exact aFF w _ _) w.heap.size (by rfl) (by with_reducible exact aPh w _ _) va n vc l (by rfl) h7.out HV.out h0 ?_;intro g cap w9 k1 k2 k3 k4;have HM:=x9.out g cap w9 k1 k2 k3 k4)
   | (refine qP (by rfl) (.tmp 26) (.tmp 27) (by rfl) w (by with_reducible exact aFF w _ _) (w.heap.size+1) (by rfl) (by with_reducible exact aPg w _ _) va n vc l (by rfl) h7.out HV.out h0 ?_;intro g cap w9 k1 k2 k3 k4;have HM:=x8.out g cap w9 k1 k2 k3 k4)
   | (go_at_call 211;refine HM.mono ?_;intro e w9 hf;obtain rfl:=x1.out _ _ hf))
 all_goals
  go_wp2;exact hR.out _ _ hf
end
section
variable {L:Nat->Option Gb} {hb:Nat} {M:Hp} {X:GX}
theorem aMJ (w:World) (k c n:Int):Calls prog 174 #[.pointer none,.int .i64 k,.int .i64 c,.int .i64 n] w (aO w (.tuple #[.int .i64 0,.int .i64 1])):=by
 refine aF fun R z=>?_;have y:=uM w;go_in
 by_cases d:k=3
 ·subst d
  by_cases a2:c=0
  ·subst a2;go_wp2_with fail;refine y.mono ?_;rintro e _ ⟨rfl,rfl⟩;go_wp2;exact z.out _ _ ⟨rfl,rfl⟩
  go_wp2_with fail;refine y.mono ?_;rintro e _ ⟨rfl,rfl⟩;go_wp2;exact z.out _ _ ⟨rfl,rfl⟩
 by_cases a3:k=4
 ·subst a3
  by_cases a4:0<=c
  ·go_wp2_with fail;refine y.mono ?_;rintro e _ ⟨rfl,rfl⟩;go_wp2;exact z.out _ _ ⟨rfl,rfl⟩
  go_wp2_with fail;refine y.mono ?_;rintro e _ ⟨rfl,rfl⟩;go_wp2;exact z.out _ _ ⟨rfl,rfl⟩
 go_wp2_with fail;refine y.mono ?_;rintro e _ ⟨rfl,rfl⟩;go_wp2;exact z.out _ _ ⟨rfl,rfl⟩
theorem pJ {α:Type} (n:Nat) (x:α):List.replicate n x ++ [x]=List.replicate (n+1) x:=by
 rw [List.replicate_succ']
theorem aAo (w:World) (h:bH w L hb M X) (hk:M.Ok) (k c:Int) (n:Nat) (hn:n<=48) (b i:Bool) (y6:(qH k c n).ok1/\∀ s,gI (qH k c n).slots s=0) (y2:decide (k=4)=b)
  (R:Ending->World->Prop) (hR:Hid (∀ e w',lM w L hb (.tuple #[.int .i64 (M.add (qH k c n)).1,.int .i64 (M.add (qH k c n)).2.1]) (M.add (qH k c n)).2.2 e w'->R e w'))
  (y5:Hid ((k=3/\c=0)\/(k=4/\0<=c/\c<10))) :
  Calls prog 174 #[.pointer (some ⟨hb,0,none⟩),.int .i64 k,.int .i64 c,.int .i64 n] w R:=by
 have h1:=fM w h;obtain ⟨i0,z0,z3,y7,z4⟩:=info_parts jV;obtain ⟨C,hC⟩:∃ C:Array Value,C.toList=List.replicate n (.int .i64 0):=⟨(List.replicate n (.int .i64 0)).toArray,by simp⟩;have z1:∀ wx,(Instr.makeSlice 23 (.int .i64 (n:Int)) (.int .i64 (n:Int))).run prog wx=.ok (.slice (some ⟨wx.heap.size,0,none⟩) n n) (wx.alloc (.cells C 3)):=fun wx=>by
  rw [run_makeSlice (P:=prog) (w:=wx) 23 3 i0 _ Tryz.underlying23 z0 z3 .i64 .i64 _ _ (by omega) (by omega) (by rw [y7];omega) (by rw [z4];omega) (by omega),y7];have e:madeCells (Value.int .i64 0).cells (n*1)=C:=by
   rw [<-Array.toList_inj,yP,hC]
  simp only [Int.toNat_natCast];rw [e]
 have n0:¬ (n:Int)<0:=by omega
 have z7:¬ (48:Int)<n:=by omega
 have vF:Hid (∀ wx (rv sv:Value),Only [] w wx->Bls wx w.heap.size rv (List.replicate n b)->aK wx w.heap.size sv (List.replicate n 0)->(∀ g,rv.ownBlock=some g->sv.ownBlock≠some g)->
   Calls prog 211 #[.pointer (some ⟨hb,0,none⟩),.agg #[.int .i64 k,.int .i64 c,rv,sv,.slice none 0 0],.bool true] wx (lM w L hb (.tuple #[.int .i64 (M.add (qH k c n)).1,.int .i64 (M.add (qH k c n)).2.1]) (M.add (qH k c n)).2.2)):=fun wx rv sv ho z2 z6 hd=>
  aDv wx h hk ho (qH k c n) y6.1 y6.2 rv sv (by rw [<-y2] at z2;exact z2) z6 hd true (fun e=>by cases e)
 obtain ⟨F,hF⟩:∃ F:Ending->World->Prop,F=lM w L hb (.tuple #[.int .i64 (M.add (qH k c n)).1,.int .i64 (M.add (qH k c n)).2.1]) (M.add (qH k c n)).2.2:=⟨_,rfl⟩;rw [<-hF] at vF;replace hR:Hid (∀ e w',F e w'->R e w'):=by rw [hF];exact hR
 have y9:Hid (∀ e w',F e w'->∃ r0 r1:Int,e=.returned (.tuple #[.int .i64 r0,.int .i64 r1])):=fun e w' he=>by rw [hF] at he;exact ⟨_,_,he.1⟩
 have HZ:=aA (qO w n (by omega) C hC);have x6:=aA y2;have y8:Hid (Only [] w ((w.alloc (.cells C 3)).alloc (.cells #[.int .i64 k,.int .i64 c,.slice none 0 0,.slice (some ⟨w.heap.size,0,none⟩) n n,.slice none 0 0] 217))):=((Only.refl [] w).alloc _).alloc _;have qJ:Hid (Row ((w.alloc (.cells C 3)).alloc (.cells #[.int .i64 k,.int .i64 c,.slice none 0 0,.slice (some ⟨w.heap.size,0,none⟩) n n,.slice none 0 0] 217)) (w.heap.size+1) 217 [.int .i64 k,.int .i64 c,.slice none 0 0,.slice (some ⟨w.heap.size,0,none⟩) n n,.slice none 0 0]):=by
  have:=Row.new (w.alloc (.cells C 3)) 217 [.int .i64 k,.int .i64 c,.slice none 0 0,.slice (some ⟨w.heap.size,0,none⟩) n n,.slice none 0 0];rwa [World.size_alloc] at this
 have x7:Hid (aK ((w.alloc (.cells C 3)).alloc (.cells #[.int .i64 k,.int .i64 c,.slice none 0 0,.slice (some ⟨w.heap.size,0,none⟩) n n,.slice none 0 0] 217)) w.heap.size (.slice (some ⟨w.heap.size,0,none⟩) n n) (List.replicate n 0)):=HZ.out.alloc _;have x1:Hid (((w.alloc (.cells C 3)).alloc (.cells #[.int .i64 k,.int .i64 c,.slice none 0 0,.slice (some ⟨w.heap.size,0,none⟩) n n,.slice none 0 0] 217)).heap.size=w.heap.size+2):=by show _=_;simp
 have HN:=aA hn;clear hF y6 h hk z0 z3 y7 z4 hC HZ y2 hn;rcases y5.out with ⟨rfl,rfl⟩|⟨rfl,g1,g2⟩
 ·have h2:=x6.out;simp at h2;subst h2;clear y5 x6;go_in;go_wp2_with fail;refine h1.mono ?_;rintro e _ ⟨rfl,rfl⟩;clear h1;go_wp2_with fail;generalize (w.alloc (.cells C 3)).alloc (.cells #[.int .i64 3,.int .i64 0,.slice none 0 0,.slice (some ⟨w.heap.size,0,none⟩) n n,.slice none 0 0] 217)=w1 at*;obtain ⟨x0,h6⟩:∃ z,z=w.heap.size:=⟨_,rfl⟩;have y0:=aA h6;obtain ⟨y,hy⟩:∃ z,z=x0+1:=⟨_,rfl⟩;rw [<-h6,<-hy] at qJ;rw [<-h6] at x7 x1 vF;rw [<-h6,<-hy];have HY:Hid (x0<y/\y<x0+2/\w1.heap.size=x0+2):=⟨by omega,by omega,x1.out⟩;clear h6 hy z1 x1;go_loopw [13] (fun iv wr=>∃ (m:Nat) (rv:Value),m<=n/\iv=.int .i64 m/\Bls wr w1.heap.size rv (List.replicate m false)/\Row wr y 217 [.int .i64 3,.int .i64 0,rv,.slice (some ⟨x0,0,none⟩) n n,.slice none 0 0]/\Only [y] w1 wr) (fun iv _=>n - (intOf iv).toNat)
  case atStart=>exact ⟨0,.slice none 0 0,by omega,rfl,Bls.nil _ _,qJ.out,Only.refl _ _⟩
  case round=>
   clear qJ;obtain ⟨m,rv,hm,rfl,h2,h7,ho⟩:=hrel;obtain ⟨ra,rc,x2⟩:=h2.len;rw [List.length_replicate] at x2;subst x2;have h3:=aA h2;have h4:=aA h7;have HO:=aA ho;have c2:wr.cell? ⟨y,2,none⟩=_:=h7.cell 2 rfl;clear h2 h7 ho
   by_cases z5:m<n
   ·have x5:(m:Int)<n:=by omega
    go_wp2_with (at_builtin;refine uY rfl _ _ rfl w1.heap.size _ _ rfl (h3.out.alloc _) wr.heap.size false rfl ?c1 ?c2 ?c3 ?c4)
    case c1=>exact (Row.new wr _ [_]).cell 0 rfl
    case c2=>simp;have:=HN.out;omega
    case c3=>have:=HO.out.size;simp;omega
    case c4=>
     intro v' w6 h5 h9 y3;rw [pJ] at h5;obtain ⟨d,h0,x3⟩:=h5.len;rw [List.length_replicate] at x3;subst x3;have x4:y∉(Value.slice ra m rc).ownBlock.toList:=fun hx=>by
      have:=(h3.out.own y (by simpa using hx)).1;have:=HY.out;omega
     have h8:=h9.row (h4.out.alloc (.cells #[.bool false] 4)) x4;have f6:=h8.free 2;have c6:w6.cell? ⟨y,2,none⟩=_:=h8.cell 2 rfl;have x9:Hid (Bls (w6.setCell ⟨y,2,none⟩ (.slice d (m+1) h0)) w1.heap.size (.slice d (m+1) h0) (List.replicate (m+1) false)):=h5.only ((Only.refl [y] w6).set (p:=⟨y,2,none⟩) (.inl (by simp)) (.slice d (m+1) h0)) (fun g' y4=>by have:=(h5.own g' y4).1;have:=HY.out;simp;omega);have y1:Hid (Row (w6.setCell ⟨y,2,none⟩ (.slice d (m+1) h0)) y 217 [.int .i64 3,.int .i64 0,.slice d (m+1) h0,.slice (some ⟨x0,0,none⟩) n n,.slice none 0 0]):=h8.set 2 (.slice d (m+1) h0);have x8:Hid (Only [y] w1 (w6.setCell ⟨y,2,none⟩ (.slice d (m+1) h0))):=((HO.out.alloc _).trans h9 (fun x hx=>.inr (h3.out.own x (by simpa using hx)).1)).set (.inl (by simp)) _;clear h5 h9 x4 h8 c2 y3;go_wp2;exact ⟨⟨m+1,.slice d (m+1) h0,by omega,by go_num,x9.out,y1.out,x8.out⟩,by simp [intOf];omega⟩
   obtain rfl:m=n:=by omega
   have x5:¬ (m:Int)<(m:Int):=by omega
   have c0:wr.cell? ⟨y,0,none⟩=_:=h4.out.cell 0 rfl;have c1:wr.cell? ⟨y,1,none⟩=_:=h4.out.cell 1 rfl;have c3:wr.cell? ⟨y,3,none⟩=_:=h4.out.cell 3 rfl;have c4:wr.cell? ⟨y,4,none⟩=_:=h4.out.cell 4 rfl;have HM:=vF.out wr (.slice ra m rc) (.slice (some ⟨x0,0,none⟩) m m) (y8.out.trans HO.out (fun x hx=>.inr (by have:=HY.out;have:=y0.out;simp at hx;omega))) (h3.out.base (by have:=HY.out;omega))
    (x7.out.only HO.out (fun g hg=>by cases hg;have:=HY.out;simp;omega)) (fun g hg=>by have:=(h3.out.own g hg).1;have:=HY.out;simp [Value.ownBlock];omega)
   clear vF;go_wp2_with fail;refine HM.mono ?_;intro e w9 hf;obtain ⟨r0,r1,rfl⟩:=y9.out _ _ hf;go_wp2;exact hR.out _ _ hf
 have h2:=x6.out;simp at h2;subst h2;clear y5 x6;go_in;go_wp2_with fail;refine h1.mono ?_;rintro e _ ⟨rfl,rfl⟩;clear h1;go_wp2_with fail;generalize (w.alloc (.cells C 3)).alloc (.cells #[.int .i64 4,.int .i64 c,.slice none 0 0,.slice (some ⟨w.heap.size,0,none⟩) n n,.slice none 0 0] 217)=w1 at*;obtain ⟨x0,h6⟩:∃ z,z=w.heap.size:=⟨_,rfl⟩;have y0:=aA h6;obtain ⟨y,hy⟩:∃ z,z=x0+1:=⟨_,rfl⟩;rw [<-h6,<-hy] at qJ;rw [<-h6] at x7 x1 vF;rw [<-h6,<-hy];have HY:Hid (x0<y/\y<x0+2/\w1.heap.size=x0+2):=⟨by omega,by omega,x1.out⟩;clear h6 hy z1 x1;go_loopw [13] (fun iv wr=>∃ (m:Nat) (rv:Value),m<=n/\iv=.int .i64 m/\Bls wr w1.heap.size rv (List.replicate m true)/\Row wr y 217 [.int .i64 4,.int .i64 c,rv,.slice (some ⟨x0,0,none⟩) n n,.slice none 0 0]/\Only [y] w1 wr) (fun iv _=>n - (intOf iv).toNat)
 case atStart=>exact ⟨0,.slice none 0 0,by omega,rfl,Bls.nil _ _,qJ.out,Only.refl _ _⟩
 case round=>
  clear qJ;obtain ⟨m,rv,hm,rfl,h2,h7,ho⟩:=hrel;obtain ⟨ra,rc,x2⟩:=h2.len;rw [List.length_replicate] at x2;subst x2;have h3:=aA h2;have h4:=aA h7;have HO:=aA ho;have c2:wr.cell? ⟨y,2,none⟩=_:=h7.cell 2 rfl;clear h2 h7 ho
  by_cases z5:m<n
  ·have x5:(m:Int)<n:=by omega
   go_wp2_with (at_builtin;refine uY rfl _ _ rfl w1.heap.size _ _ rfl (h3.out.alloc _) wr.heap.size true rfl ?c1 ?c2 ?c3 ?c4)
   case c1=>exact (Row.new wr _ [_]).cell 0 rfl
   case c2=>simp;have:=HN.out;omega
   case c3=>have:=HO.out.size;simp;omega
   case c4=>
    intro v' w6 h5 h9 y3;rw [pJ] at h5;obtain ⟨d,h0,x3⟩:=h5.len;rw [List.length_replicate] at x3;subst x3;have x4:y∉(Value.slice ra m rc).ownBlock.toList:=fun hx=>by
     have:=(h3.out.own y (by simpa using hx)).1;have:=HY.out;omega
    have h8:=h9.row (h4.out.alloc (.cells #[.bool true] 4)) x4;have f6:=h8.free 2;have c6:w6.cell? ⟨y,2,none⟩=_:=h8.cell 2 rfl;have x9:Hid (Bls (w6.setCell ⟨y,2,none⟩ (.slice d (m+1) h0)) w1.heap.size (.slice d (m+1) h0) (List.replicate (m+1) true)):=h5.only ((Only.refl [y] w6).set (p:=⟨y,2,none⟩) (.inl (by simp)) (.slice d (m+1) h0)) (fun g' y4=>by have:=(h5.own g' y4).1;have:=HY.out;simp;omega);have y1:Hid (Row (w6.setCell ⟨y,2,none⟩ (.slice d (m+1) h0)) y 217 [.int .i64 4,.int .i64 c,.slice d (m+1) h0,.slice (some ⟨x0,0,none⟩) n n,.slice none 0 0]):=h8.set 2 (.slice d (m+1) h0);have x8:Hid (Only [y] w1 (w6.setCell ⟨y,2,none⟩ (.slice d (m+1) h0))):=((HO.out.alloc _).trans h9 (fun x hx=>.inr (h3.out.own x (by simpa using hx)).1)).set (.inl (by simp)) _;clear h5 h9 x4 h8 c2 y3;go_wp2;exact ⟨⟨m+1,.slice d (m+1) h0,by omega,by go_num,x9.out,y1.out,x8.out⟩,by simp [intOf];omega⟩
  obtain rfl:m=n:=by omega
  have x5:¬ (m:Int)<(m:Int):=by omega
  have c0:wr.cell? ⟨y,0,none⟩=_:=h4.out.cell 0 rfl;have c1:wr.cell? ⟨y,1,none⟩=_:=h4.out.cell 1 rfl;have c3:wr.cell? ⟨y,3,none⟩=_:=h4.out.cell 3 rfl;have c4:wr.cell? ⟨y,4,none⟩=_:=h4.out.cell 4 rfl;have HM:=vF.out wr (.slice ra m rc) (.slice (some ⟨x0,0,none⟩) m m) (y8.out.trans HO.out (fun x hx=>.inr (by have:=HY.out;have:=y0.out;simp at hx;omega))) (h3.out.base (by have:=HY.out;omega))
   (x7.out.only HO.out (fun g hg=>by cases hg;have:=HY.out;simp;omega)) (fun g hg=>by have:=(h3.out.own g hg).1;have:=HY.out;simp [Value.ownBlock];omega)
  clear vF;go_wp2_with fail;refine HM.mono ?_;intro e w9 hf;obtain ⟨r0,r1,rfl⟩:=y9.out _ _ hf;go_wp2;exact hR.out _ _ hf
theorem rU (w:World) (h:bH w L hb M X) (hk:M.Ok) (k c n:Int) :
  Calls prog 174 #[.pointer (some ⟨hb,0,none⟩),.int .i64 k,.int .i64 c,.int .i64 n] w (lM w L hb (.tuple #[.int .i64 (M.aG k c n).1,.int .i64 (M.aG k c n).2.1]) (M.aG k c n).2.2):=by
 refine aF fun R d=>?_
 by_cases y:¬ (n<0\/48<n)/\((k=3/\c=0)\/(k=4/\0<=c/\c<10))
 ·obtain ⟨z,h0⟩:=y;have hr:M.aG k c n=M.add (qH k c n.toNat):=by unfold Hp.aG;rw [if_neg z,if_pos h0]
  rw [hr] at d;have h2:=qG z h0;obtain ⟨m,rfl⟩:∃ m:Nat,n=m:=⟨n.toNat,by omega⟩;rw [Int.toNat_natCast] at d h2;exact aAo w h hk k c m (by omega) _ true h2 rfl R d h0
 have hr:M.aG k c n=(0,1,M):=by
  unfold Hp.aG
  by_cases z:n<0\/48<n
  ·rw [if_pos z]
  rw [if_neg z,if_neg (fun e=>y ⟨z,e⟩)]
 rw [hr] at d;have h1:=fM w h;have HD:Hid (lM w L hb (.tuple #[.int .i64 0,.int .i64 1]) M (.returned (.tuple #[.int .i64 0,.int .i64 1])) w):=lM.none0 h (Only.refl _ _);have vG:=aA y;clear h hr y hk;go_in
 by_cases a1:k=3
 ·subst a1
  by_cases a2:c=0
  ·subst a2
   by_cases n1:n<0
   ·clear vG;go_wp2_with fail;refine h1.mono ?_;rintro e _ ⟨rfl,rfl⟩;go_wp2;exact d.out _ _ HD.out
   have n2:48<n:=by
    by_cases e:48<n
    ·exact e
    exact absurd ⟨by omega,.inl ⟨rfl,rfl⟩⟩ vG.out
   clear vG;go_wp2_with fail;refine h1.mono ?_;rintro e _ ⟨rfl,rfl⟩;go_wp2;exact d.out _ _ HD.out
  clear vG;go_wp2_with fail;refine h1.mono ?_;rintro e _ ⟨rfl,rfl⟩;go_wp2;exact d.out _ _ HD.out
 by_cases a3:k=4
 ·subst a3
  by_cases a4:0<=c
  ·by_cases a5:c<10
   ·by_cases n1:n<0
    ·clear vG;go_wp2_with fail;refine h1.mono ?_;rintro e _ ⟨rfl,rfl⟩;go_wp2;exact d.out _ _ HD.out
    have n2:48<n:=by
     by_cases e:48<n
     ·exact e
     exact absurd ⟨by omega,.inr ⟨rfl,a4,a5⟩⟩ vG.out
    clear vG;go_wp2_with fail;refine h1.mono ?_;rintro e _ ⟨rfl,rfl⟩;go_wp2;exact d.out _ _ HD.out
   clear vG;go_wp2_with fail;refine h1.mono ?_;rintro e _ ⟨rfl,rfl⟩;go_wp2;exact d.out _ _ HD.out
  clear vG;go_wp2_with fail;refine h1.mono ?_;rintro e _ ⟨rfl,rfl⟩;go_wp2;exact d.out _ _ HD.out
 clear vG;go_wp2_with fail;refine h1.mono ?_;rintro e _ ⟨rfl,rfl⟩;go_wp2;exact d.out _ _ HD.out
end
end Go.Proofs.YthflghdaejbdkaaGreat
