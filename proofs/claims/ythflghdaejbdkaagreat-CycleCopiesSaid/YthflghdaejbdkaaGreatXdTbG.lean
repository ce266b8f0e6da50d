/- Lemmas of this claim. -/
import Derived.Test.YthflghdaejbdkaaGreatXdCyStar
import Derived.Test.YthflghdaejbdkaaGreatXdTbPF
import Derived.Test.YthflghdaejbdkaaGreatXdCyOwn
import Derived.Test.YthflghdaejbdkaaGreatXdTbPC
namespace Go.Proofs.YthflghdaejbdkaaGreat
open _root_.Go.Proofs.Tryz (prog)
open Go.RowKit Go.Maps
set_option maxHeartbeats 3200000
set_option maxRecDepth 100000
set_option linter.unusedVariables false
structure CX where
 hb:Nat
 p:Nat
 tb:Nat
 sv:Value
 ov:Bool
 mv:Nat
def bY (b:Nat) (c:Co) (x:CX):List Value:=[.int .i64 (c.pages:Int),.int .i64 c.rate,.pointer (some ⟨x.hb,0,none⟩),.pointer (some ⟨x.tb,0,none⟩),.pointer (some ⟨x.p,0,none⟩),.int .i64 (c.ph:Int),.int .i64 c.cr,.bool x.ov,x.sv,.int .i64 (x.mv:Int)]
structure CX.ok (x:CX) (c:Co):Prop where
 ov:c.ph=2->x.ov=decide (c.t.ph=0)
 mv:c.ph=4->x.mv=c.mv
 mv2:x.mv<=192
def C5 (b:Nat) (c:Co) (x:CX):List Asn:=[PH x.hb c.m.M,MkA x.p x.hb c.m.col c.m.list,TbA x.tb c.t c.t.ents.length,dQ x.sv c.sw,dZ b 142 (bY b c x)]
def CoA (b:Nat) (c:Co):Asn:=aJN (fun x=>CX.ok x c) (C5 b c)
structure GX5 where
 q:Nat
 r:Nat
 ub:Nat
 sv:Value
 on:Bool
 mv:Nat
def aY (b:Nat) (c:Co) (x:GX5):List Value:=[.pointer (some ⟨x.q,0,none⟩),.pointer (some ⟨x.ub,0,none⟩),.pointer (if x.on then some ⟨x.r,0,none⟩ else none),.int .i64 (c.ph:Int),.int .i64 c.cr,.int .i64 c.rate,.int .i64 (c.pages:Int),.int .i64 (x.mv:Int),x.sv]
structure GX5.ok (x:GX5) (c:Co):Prop where
 on:x.on=c.bar
 mv:c.ph=4->x.mv=c.mv
 m0:1<=c.ph->c.ph<=3->x.mv=0
 mv2:x.mv<=192
def MkO (on:Bool) (r q:Nat) (m:Mk):Asn:=if on then GkA r q m.col m.list else NoA
def G5 (b:Nat) (c:Co) (x:GX5):List Asn:=[GH x.q c.m.M,MkO x.on x.r x.q c.m,TrA x.ub c.t,dQ x.sv c.sw,dZ b 99 (aY b c x)]
def GoA (b:Nat) (c:Co):Asn:=aJN (fun x=>GX5.ok x c) (G5 b c)
section
variable {w0 w w':World} {l:List Asn} {b:Nat} {c:Co} {x:CX} {i:Nat} {m:Mk} {t:Tb}
theorem CoA.open (h:Fam w0 w l) (hi:l[i]?=some (CoA b c)):∃ x:CX,x.ok c/\Fam w0 w (C5 b c x ++ l.set i NoA):=h.aOq hi
theorem CoA.close (hx:x.ok c) (h:Fam w0 w (C5 b c x ++ l.set i NoA)) (hi:i<l.length):Fam w0 w (l.set i (CoA b c)):=by
 have:=h.aJx (P:=fun x=>CX.ok x c) (F:=C5 b c) x hx rfl (aJf hi);rwa [aHR] at this
theorem CoA.born (hx:x.ok c) (h:Fam w0 w (C5 b c x ++ l)):Fam w0 w (l ++ [CoA b c]):=h.aMo (P:=fun x=>CX.ok x c) (F:=C5 b c) x hx rfl
theorem C5.t2:fZ (C5 b c x ++ l) 0 1:=⟨by simp [C5],by simp [C5],by decide⟩
theorem C5.t3:Three (C5 b c x ++ l) 0 1 2:=⟨C5.t2,by simp [C5],by decide,by decide⟩
theorem C5.row (h:Fam w0 w (C5 b c x ++ l)):Row w b 142 (bY b c x):=h.row 4 rfl
theorem C5.ph (h:Fam w0 w (C5 b c x ++ l)):c.m.M.Ok/\∃ L X,dH w L x.hb c.m.M X:=h.ph 0 rfl
theorem C5.sw (h:Fam w0 w (C5 b c x ++ l)):aO w 0 x.sv c.sw:=h.ints 3 rfl
theorem C5.tb (h:Fam w0 w (C5 b c x ++ l)):∃ ev qv mo,lQ w x.tb ev qv mo c.t c.t.ents.length:=PL.tb (C5.t3 (b:=b) (c:=c) (x:=x) (l:=l)) (hb:=x.hb) (p:=x.p) (b:=x.tb) (m:=c.m) (t:=c.t) (kk:=c.t.ents.length) h
theorem bY.cells (h:Fam w0 w (C5 b c x ++ l)):w.cell? ⟨b,0,none⟩=some (.int .i64 (c.pages:Int))/\w.cell? ⟨b,1,none⟩=some (.int .i64 c.rate)/\w.cell? ⟨b,2,none⟩=some (.pointer (some ⟨x.hb,0,none⟩))/\w.cell? ⟨b,3,none⟩=some (.pointer (some ⟨x.tb,0,none⟩))/\w.cell? ⟨b,4,none⟩=some (.pointer (some ⟨x.p,0,none⟩))/\w.cell? ⟨b,5,none⟩=some (.int .i64 (c.ph:Int))/\w.cell? ⟨b,6,none⟩=some (.int .i64 c.cr)/\w.cell? ⟨b,7,none⟩=some (.bool x.ov)/\w.cell? ⟨b,8,none⟩=some x.sv/\w.cell? ⟨b,9,none⟩=some (.int .i64 (x.mv:Int))/\∀ k,w.frozen? ⟨b,k,none⟩=false:=by
 have r:=C5.row h;exact ⟨r.cell 0 rfl,r.cell 1 rfl,r.cell 2 rfl,r.cell 3 rfl,r.cell 4 rfl,r.cell 5 rfl,r.cell 6 rfl,r.cell 7 rfl,r.cell 8 rfl,r.cell 9 rfl,fun k=>r.free k⟩
end
set_option maxHeartbeats 6400000
section
variable {w0 w:World} {l:List Asn} {b:Nat} {c:Co} {x:CX} {i:Nat}
theorem rE (w:World):Calls prog 107 #[.pointer none] w (aK w (.bool true)):=by
 refine aF fun R hR=>?_;go_in;go_wp2_with fail;exact hR.out _ _ ⟨rfl,rfl⟩
theorem aJ (w:World) {hb:Nat} (h:w.cell? ⟨b,2,none⟩=some (.pointer (some ⟨hb,0,none⟩))):Calls prog 107 #[.pointer (some ⟨b,0,none⟩)] w (aK w (.bool false)):=by
 refine aF fun R hR=>?_;go_in;go_wp2_with fail;exact hR.out _ _ ⟨rfl,rfl⟩
theorem jW (w:World) (hf:Fam w0 w (C5 b c x ++ l)) (h:Int) (hh:wfI h):Calls prog 114 #[.pointer (some ⟨b,0,none⟩),.int .i64 h] w (Same w (.int .i64 (c.m.M.len h))):=by
 refine aF fun R hR=>?_;obtain ⟨_,_,x2,_⟩:=bY.cells hf;obtain ⟨hk,L,X,hp⟩:=C5.ph hf;have ct:=uY w hp h hh;unfold Hp.len at hR;clear hf hk hp;go_in;go_wp2_with fail;refine ct.mono ?_;rintro e _ ⟨rfl,n,rfl⟩;go_wp2_with fail;exact hR.out _ _ ⟨rfl,n,rfl⟩
theorem qG (h:c.Okc):c.ph=0\/c.ph=1\/c.ph=2\/c.ph=3\/c.ph=4:=by have:=h.p4;omega
theorem gQ (w:World) (hf:Fam w0 w (C5 b c x ++ l)) (h:c.Okc):Calls prog 117 #[.pointer (some ⟨b,0,none⟩)] w (aK w (.bool c.bar)):=by
 refine aF fun R hR=>?_;obtain ⟨_,_,_,_,_,x5,_⟩:=bY.cells hf;unfold Co.bar at hR;rcases qG h with e|e|e|e|e
 all_goals
  rw [e] at hR x5;clear hf h e;go_in;go_wp2_with fail;exact hR.out _ _ ⟨rfl,rfl⟩
theorem aGR (w:World) (hf:Fam w0 w (C5 b c x ++ l)):Calls prog 53 #[.pointer (some ⟨b,0,none⟩)] w (aK w (.int .i64 (c.ph:Int))):=by
 refine aF fun R hR=>?_;obtain ⟨_,_,x2,_,_,x5,_⟩:=bY.cells hf;have cn:=aJ w x2;clear hf;generalize c.ph=ph at*;go_in;go_wp2_with fail;refine cn.mono ?_;rintro e _ ⟨rfl,rfl⟩;go_wp2_with fail;exact hR.out _ _ ⟨rfl,rfl⟩
theorem aEl (w:World) (hf:Fam w0 w (C5 b c x ++ l)):Calls prog 54 #[.pointer (some ⟨b,0,none⟩)] w (aK w (.int .i64 c.cr)):=by
 refine aF fun R hR=>?_;obtain ⟨_,_,x2,_,_,_,x6,_⟩:=bY.cells hf;have cn:=aJ w x2;clear hf;go_in;go_wp2_with fail;refine cn.mono ?_;rintro e _ ⟨rfl,rfl⟩;go_wp2_with fail;exact hR.out _ _ ⟨rfl,rfl⟩
theorem eY (w:World) (hf:Fam w0 w (C5 b c x ++ l)) (h:c.Okc) (y:Int) (hy:wfI y):Calls prog 121 #[.pointer (some ⟨b,0,none⟩),.int .i64 y] w (Same w (.bool (c.hid y))):=by
 refine aF fun R hR=>?_;obtain ⟨_,_,_,_,x4,x5,_,_,x8,_⟩:=bY.cells hf;have cc:=sG w (C5.t2 (b:=b) (c:=c) (x:=x) (l:=l)) (hb:=x.hb) (p:=x.p) (m:=c.m) hf y hy;have hs:=C5.sw hf;have cs:=oL w x.sv c.sw hs.read (by have:=h.uH;omega) y;have hsw:=h.sw;unfold Co.hid at hR;rcases qG h with e|e|e|e|e
 ·rw [if_neg (by omega),hsw (by omega)] at hR;rw [e] at x5;replace hR:Hid (∀ e w',Same w (.bool false) e w'->R e w'):=hR;clear hf h e hs cc cs hsw x4 x8;go_in;go_wp2_with fail;exact hR.out _ _ ⟨rfl,iL _⟩
 ·rw [if_neg (by omega),hsw (by omega)] at hR;rw [e] at x5;replace hR:Hid (∀ e w',Same w (.bool false) e w'->R e w'):=hR;clear hf h e hs cc cs hsw x4 x8;go_in;go_wp2_with fail;exact hR.out _ _ ⟨rfl,iL _⟩
 ·rw [if_pos e] at hR;rw [e] at x5;unfold Mk.isW at hR;unfold Mk.color at cc;clear hf h e hs cs hsw x8
  cases hu:(c.m.M.ob y).isSome with
  | false=>
   rw [hu] at hR cc;replace hR:Hid (∀ e w',Same w (.bool false) e w'->R e w'):=hR;clear hu;go_in;go_wp2_with fail;refine cc.mono ?_;rintro e _ ⟨rfl,n,rfl⟩;go_wp2_with fail;exact hR.out _ _ ⟨rfl,n,rfl⟩
  | true=>
   rw [hu] at hR cc;replace hR:Hid (∀ e w',Same w (.bool (decide (c.m.col y=0))) e w'->R e w'):=hR;clear hu;generalize c.m.col y=k at *
   by_cases hk:k=0
   ·subst hk;replace hR:Hid (∀ e w',Same w (.bool true) e w'->R e w'):=hR;go_in;go_wp2_with fail;refine cc.mono ?_;rintro e _ ⟨rfl,n,rfl⟩;go_wp2_with fail;exact hR.out _ _ ⟨rfl,n,rfl⟩
   rw [decide_eq_false hk] at hR;have hkb:(k == 0)=false:=by simpa using hk
   clear hk;go_in;go_wp2_with fail;refine cc.mono ?_;rintro e _ ⟨rfl,n,rfl⟩;go_wp2_with fail;exact hR.out _ _ ⟨rfl,n,rfl⟩
 ·rw [if_neg (by omega)] at hR;rw [e] at x5;obtain ⟨sa,sc,hv⟩:=hs.len;rw [hv] at cs x8;generalize c.sw.length=n at*;generalize decide (y∈c.sw)=d at*;clear hf h e hs cc hsw x4 hv;go_in;go_wp2_with fail;refine cs.mono ?_;rintro e _ ⟨rfl,rfl⟩;go_wp2_with fail;exact hR.out _ _ ⟨rfl,iL _⟩
 rw [if_neg (by omega),hsw (by omega)] at hR;rw [e] at x5;replace hR:Hid (∀ e w',Same w (.bool false) e w'->R e w'):=hR;clear hf h e hs cc cs hsw x4 x8;go_in;go_wp2_with fail;exact hR.out _ _ ⟨rfl,iL _⟩
def Co.kE (c:Co):Value:=
 if c.ph=1 then (if c.m.list=[] then .iface 163 (.agg #[.int .i64 2]) else .iface 157 (.agg #[]))
 else if c.ph=2 then (if c.t.ph≠0 then .iface 218 (.agg #[]) else if c.m.list=[] then .iface 163 (.agg #[.int .i64 3]) else .iface 157 (.agg #[]))
 else if c.ph=3 then (match c.sw with|[]=>.iface 163 (.agg #[.int .i64 4])|h :: _=>.iface 160 (.agg #[.int .i64 h]))
 else (if c.mv=8*c.pages then .iface 163 (.agg #[.int .i64 0]) else .iface 219 (.agg #[]))
theorem bJ (w:World) (hf:Fam w0 w (C5 b c x ++ l)) (h:c.Okc) (hx:x.ok c) (hp:c.ph≠0):Calls prog 112 #[.pointer (some ⟨b,0,none⟩)] w (Same w c.kE):=by
 refine aF fun R hR=>?_;obtain ⟨x0,_,_,_,x4,x5,_,x7,x8,x9,_⟩:=bY.cells hf;have cd:=xI w (C5.t2 (b:=b) (c:=c) (x:=x) (l:=l)) (hb:=x.hb) (p:=x.p) (m:=c.m) hf;have hs:=C5.sw hf;unfold Co.kE at hR;rcases qG h with e|e|e|e|e
 ·exact absurd e hp
 ·rw [if_pos e] at hR;rw [e] at x5;clear hf h hs x7 x8 x9 x0 hx hp e
  by_cases hl:c.m.list=[]
  ·rw [if_pos hl] at hR;rw [decide_eq_true hl] at cd;clear hl;go_in;go_wp2_with fail;refine cd.mono ?_;rintro e _ ⟨rfl,rfl⟩;go_wp2_with fail;exact hR.out _ _ ⟨rfl,iL _⟩
  rw [if_neg hl] at hR;rw [decide_eq_false hl] at cd;clear hl;go_in;go_wp2_with fail;refine cd.mono ?_;rintro e _ ⟨rfl,rfl⟩;go_wp2_with fail;exact hR.out _ _ ⟨rfl,iL _⟩
 ·rw [if_neg (by omega),if_pos e] at hR;have hov:=hx.ov e;rw [e] at x5;clear hf h hs x8 x9 x0 hx hp e
  by_cases ht:c.t.ph≠0
  ·rw [if_pos ht] at hR;rw [decide_eq_false ht] at hov;rw [hov] at x7;clear cd ht hov;go_in;go_wp2_with fail;exact hR.out _ _ ⟨rfl,iL _⟩
  rw [if_neg ht] at hR;rw [decide_eq_true (Classical.not_not.1 ht)] at hov;rw [hov] at x7;clear ht hov
  by_cases hl:c.m.list=[]
  ·rw [if_pos hl] at hR;rw [decide_eq_true hl] at cd;clear hl;go_in;go_wp2_with fail;refine cd.mono ?_;rintro e _ ⟨rfl,rfl⟩;go_wp2_with fail;exact hR.out _ _ ⟨rfl,iL _⟩
  rw [if_neg hl] at hR;rw [decide_eq_false hl] at cd;clear hl;go_in;go_wp2_with fail;refine cd.mono ?_;rintro e _ ⟨rfl,rfl⟩;go_wp2_with fail;exact hR.out _ _ ⟨rfl,iL _⟩
 ·rw [if_neg (by omega),if_neg (by omega),if_pos e] at hR;rw [e] at x5;clear hf h cd x7 x9 x0 hx hp e x4
  cases hc:c.sw with
  | nil=>
   rw [hc] at hs hR;obtain ⟨sa,sc,hv⟩:=hs.len;rw [hv] at x8;replace x8:w.cell? ⟨b,8,none⟩=some (.slice sa 0 sc):=x8;clear hs hv hc;go_in;go_wp2_with fail;exact hR.out _ _ ⟨rfl,iL _⟩
  | cons y r=>
   rw [hc] at hs hR;obtain ⟨sa,sc,hv⟩:=hs.len;rw [hv] at x8 hs;obtain ⟨sb,so,hse,hcl⟩:=hs.read.at (k:=0) (by simp);rw [hse] at x8;rw [Nat.add_zero] at hcl;replace hcl:w.cell? ⟨sb,so,none⟩=some (.int .i64 y):=hcl;replace x8:w.cell? ⟨b,8,none⟩=some (.slice (some ⟨sb,so,none⟩) (r.length+1) sc):=x8;replace hR:Hid (∀ e w',Same w (.iface 160 (.agg #[.int .i64 y])) e w'->R e w'):=hR;clear hs hv hc hse;generalize r.length=n at*;have hn1:((n:Int)+1 == 0)=false:=by rw [beq_eq_false_iff_ne];omega
   have hn2:(0:Int)<(n:Int)+1:=by omega
   go_in;go_wp2_with fail;exact hR.out _ _ ⟨rfl,iL _⟩
 rw [if_neg (by omega),if_neg (by omega),if_neg (by omega)] at hR;have hmv:=hx.mv e;rw [hmv] at x9;rw [e] at x5;have hpg:=h.pg;have aSA:=h.mv;clear hf h hs cd x7 hx hp e x4 x8 hmv;generalize c.pages=n at*;generalize c.mv=v at*;have hw8:IntKind.i64.wrap (8*(n:Int))=8*(n:Int):=IntWalk.i64_in _ (by omega);have aRq:IntKind.i64.wrap (8*(n:Int))=((8*n:Nat):Int):=hw8.trans (by omega)
 by_cases hc:v=8*n
 ·rw [if_pos hc] at hR;have hcb:((v:Int) == 8*(n:Int))=true:=by simp;omega
  clear hc aRq;go_in;go_wp2_with fail;go_region
  all_goals
   go_wp2_with fail;exact hR.out _ _ ⟨rfl,1,rfl⟩
 rw [if_neg hc] at hR;have hcb:((v:Int) == 8*(n:Int))=false:=by rw [beq_eq_false_iff_ne];omega
 clear hc aRq;go_in;go_wp2_with fail;go_region
 all_goals
  go_wp2_with fail;exact hR.out _ _ ⟨rfl,1,rfl⟩
end
def aAw (w0:World) (l:List Asn) (b:Nat) (r:Int×Co) (e:Ending) (w':World):Prop:=e=.returned (.int .i64 r.1)/\∃ x':CX,x'.ok r.2/\Fam w0 w' (C5 b r.2 x' ++ l)
section
variable {w0 w:World} {l:List Asn} {b:Nat} {c:Co} {x:CX} {i:Nat}
theorem C5.alloc (hf:Fam w0 w (C5 b c x ++ l)) (o:Obj):Fam w0 (w.alloc o) (C5 b c x ++ l):=Fam.alloc hf o
theorem C5.rX (hf:Fam w0 w (C5 b c x ++ l)) (n:Nat):Fam w0 (w.setCell ⟨b,5,none⟩ (.int .i64 (n:Int))) (C5 b { c with ph:=n } x ++ l):=hf.bQ 4 rfl 5 _
theorem C5.aDu (hf:Fam w0 w (C5 b c x ++ l)) (n:Int):Fam w0 (w.setCell ⟨b,6,none⟩ (.int .i64 n)) (C5 b { c with cr:=n } x ++ l):=hf.bQ 4 rfl 6 _
theorem C5.aMF (hf:Fam w0 w (C5 b c x ++ l)) (v:Bool):Fam w0 (w.setCell ⟨b,7,none⟩ (.bool v)) (C5 b c { x with ov:=v } ++ l):=hf.bQ 4 rfl 7 _
theorem C5.aKz (hf:Fam w0 w (C5 b c x ++ l)) (n:Nat):Fam w0 (w.setCell ⟨b,9,none⟩ (.int .i64 (n:Int))) (C5 b c { x with mv:=n } ++ l):=hf.bQ 4 rfl 9 _
theorem C5.aFB {w1:World} (hf:Fam w0 w (C5 b c x ++ l)) (ho:Only [] w w1) {v:Value} {s:List Int} (hi:aO w1 w.heap.size v s):Fam w0 (w1.setCell ⟨b,8,none⟩ v) (C5 b { c with sw:=s } { x with sv:=v } ++ l):=by
 have h1:Fam w0 w1 ((C5 b c x ++ l) ++ [dQ v s]):=hf.jG ho hi;have h2:=h1.bQ 4 rfl 8 v;have hl5:(C5 b c x ++ l).length=5+l.length:=by rw [List.length_append];rfl
 refine h2.selC (fun k=>if k=3 then 5+l.length else k) (fun k A hk=>?_) (fun j k hj hk hne=>?_)
 ·by_cases e:k=3
  ·rw [if_pos e];subst e;have e2:A=dQ v s:=by
    have h3:(C5 b { c with sw:=s } { x with sv:=v } ++ l)[3]?=some (dQ v s):=rfl;rw [h3] at hk;exact (Option.some.inj hk).symm
   rw [e2,List.getElem?_set_ne (by omega),List.getElem?_append_right (by omega),show 5+l.length - (C5 b c x ++ l).length=0 by omega];rfl
  rw [if_neg e];have hlt:=(List.getElem?_eq_some_iff.1 hk).1;have hlen:(C5 b { c with sw:=s } { x with sv:=v } ++ l).length=5+l.length:=by rw [List.length_append];rfl
  by_cases e4:k=4
  ·subst e4;have h3:(C5 b { c with sw:=s } { x with sv:=v } ++ l)[4]?=some (dZ b 142 (bY b { c with sw:=s } { x with sv:=v })):=rfl;rw [h3] at hk;rw [<-Option.some.inj hk];rw [List.getElem?_set_self (by rw [List.length_append,hl5];omega)];rfl
  rw [List.getElem?_set_ne (fun e=>e4 e.symm),List.getElem?_append_left (by omega)];rw [<-hk]
  match k,e,e4 with
  | 0,_,_=>rfl
  | 1,_,_=>rfl
  | 2,_,_=>rfl
  | k+5,_,_=>rfl
 have hlen:(C5 b { c with sw:=s } { x with sv:=v } ++ l).length=5+l.length:=by rw [List.length_append];rfl
 rw [hlen] at hj hk
 by_cases e:j=3
 ·rw [if_pos e]
  by_cases e2:k=3
  ·omega
  rw [if_neg e2];omega
 rw [if_neg e]
 by_cases e2:k=3
 ·rw [if_pos e2];omega
 rw [if_neg e2];exact hne
theorem C5.last {g T:Nat} {cs:List Value} (hf:Fam w0 w (C5 b c x ++ (l ++ [dZ g T cs]))):Row w g T cs:=by
 refine hf.row (5+l.length) ?_;have h5:(C5 b c x).length=5:=rfl;rw [List.getElem?_append_right (by omega),List.getElem?_append_right (by omega),show 5+l.length - (C5 b c x).length - l.length=0 by omega];rfl
theorem aAD {m:Mk} (h:m.Ok):wfI m.step.1:=by
 unfold Mk.step
 cases e:m.list with
 | nil=>show wfI 0;exact dI (by decide)
 | cons y t=>
  show wfI y;have:=h.inR (x:=y) (by rw [e];simp);exact dI (by omega)
theorem aHs {y:Int} (h:1<=y/\y<=192):wfI y:=dI (by omega)
theorem sJ (w:World) (hf:Fam w0 w (C5 b c x ++ l)) (hx:x.ok c) (hm:c.m.Ok):Calls prog 298 #[.agg #[],.pointer (some ⟨b,0,none⟩)] w (aAw w0 l b c.mark):=by
 refine aF fun R hR=>?_;have HF:=aA hf;have HM:=aA hm;have HX:=aA hx;have HW:=aA (aAD hm);have hlr:=eX (by have:=hm.hf.ok;rw [<-Mk.pY (m:=c.m)] at this;exact this:c.m.step.2.2.M.Ok) c.m.step.1;have HR:Hid (∀ w',Fam w0 w' (C5 b (c.oH c.m.step.2.2) x ++ l)->R (.returned (.int .i64 (1+c.m.step.2.2.M.len c.m.step.1))) w'):=fun w' h=>hR.out _ _ ⟨by show _=Ending.returned (.int .i64 (1+c.m.M.len c.m.step.1));rw [<-Mk.pY (m:=c.m)],x,⟨hx.ov,hx.mv,hx.mv2⟩,h⟩;clear hR hf hm hx;go_in;go_upto_region 1 with fail;have F1:=aA (C5.alloc HF.out (.cells #[] 157));obtain ⟨_,_,_,_,x4,_⟩:=bY.cells F1.out;have cs:=aCi _ (C5.t2 (b:=b) (c:=c) (x:=x) (l:=l)) (hb:=x.hb) (p:=x.p) F1.out HM.out;generalize w.alloc (.cells #[] 157)=w1 at*;go_wp2_with fail;refine cs.mono ?_;rintro e w2 ⟨rfl,hf⟩;have F2:Hid (Fam w0 w2 (C5 b (c.oH c.m.step.2.2) x ++ l)):=hf;have cl:=jW w2 F2.out c.m.step.1 HW.out;replace cl:Calls prog 114 #[.pointer (some ⟨b,0,none⟩),.int .i64 c.m.step.1] w2 (Same w2 (.int .i64 (c.m.step.2.2.M.len c.m.step.1))):=cl;clear cs hf x4 F1;generalize c.m.step.2.2.M.len c.m.step.1=n at*;go_wp2_with fail;refine cl.mono ?_;rintro e _ ⟨rfl,k,rfl⟩;have F3:=aA (F2.out.drewN k);clear cl F2;go_wp2_with fail;exact HR.out _ F3.out
theorem aET (w:World) (hf:Fam w0 w (C5 b c x ++ l)) (h s v:Int) (hh:wfI h) (hv:wfI v):Calls prog 127 #[.pointer (some ⟨x.hb,0,none⟩),.int .i64 h,.int .i64 s,.int .i64 v] w (fun e w'=>e=.returned (.int .i64 (c.m.M.set h s v).1)/\Fam w0 w' (C5 b (c.oH (c.m.put (c.m.M.set h s v).2)) x ++ l)):=
 hf.aBV 0 rfl (M':=(c.m.M.set h s v).2) (fun hk=>hk.set h s v) (fun L X hr hk=>aHO w hr hk h s v hh hv)
theorem aHb (w:World) (hf:Fam w0 w (C5 b c x ++ l)) (h:Int) (hh:wfI h):Calls prog 304 #[.pointer (some ⟨b,0,none⟩),.int .i64 h] w (fun e w'=>e=.returned (.tuple #[])/\Fam w0 w' (C5 b (c.oH (c.m.put (c.m.M.blank h))) x ++ l)):=by
 refine aF fun R hR=>?_;have HF:=aA hf;have HW:=aA hh;have cl:=jW w hf h hh;have hlr:=eX (C5.ph hf).1 h;obtain ⟨n,hn⟩:∃ n:Nat,c.m.M.len h=(n:Int):=⟨(c.m.M.len h).toNat,by omega⟩;have HB:Hid (c.m.M.blank h=c.m.M.bT h n):=by show _=_;unfold Hp.blank;rw [hn];rfl
 rw [hn] at cl hlr;rw [HB.out] at hR;clear hf hh hn HB;go_in;go_wp2_with fail;refine cl.mono ?_;rintro e _ ⟨rfl,k0,rfl⟩;have F1:=aA (HF.out.drewN k0);generalize w.drewN k0=w1 at*;clear cl HF;go_wp2_with fail;go_loopw [10] (fun iv wr=>∃ k:Nat,k<=n/\iv=.int .i64 k/\Fam w0 wr (C5 b (c.oH (c.m.put (c.m.M.bT h k))) x ++ l)) (fun iv _=>n - (intOf iv).toNat)
 case atStart=>exact ⟨0,by omega,rfl,F1.out⟩
 case round=>as_aux_lemma=>
  clear F1;obtain ⟨k,hk,rfl,hf⟩:=hrel;have HF:=aA hf
  by_cases hlt:k<n
  ·have hlt1:(k:Int)<(n:Int):=by omega
   obtain ⟨_,_,x2,_⟩:=bY.cells hf;obtain ⟨hok,L,X,hp⟩:=C5.ph hf;have c1:=qP wr hp hok h (k:Int) HW.out;have HB:Hid (c.m.M.bT h (k+1)=if ((c.m.M.bT h k).isRef h (k:Int)).1=true then ((c.m.M.bT h k).set h (k:Int) 0).2 else c.m.M.bT h k):=rfl;have c2:=aET wr hf h (k:Int) 0 HW.out (dI (by decide));replace c1:Calls prog 125 #[.pointer (some ⟨x.hb,0,none⟩),.int .i64 h,.int .i64 (k:Int)] wr (aK wr (.tuple #[.bool ((c.m.M.bT h k).isRef h (k:Int)).1,.int .i64 ((c.m.M.bT h k).isRef h (k:Int)).2])):=c1;replace c2:Calls prog 127 #[.pointer (some ⟨x.hb,0,none⟩),.int .i64 h,.int .i64 (k:Int),.int .i64 0] wr (fun e w'=>e=.returned (.int .i64 ((c.m.M.bT h k).set h (k:Int) 0).1)/\Fam w0 w' (C5 b (c.oH (c.m.put ((c.m.M.bT h k).set h (k:Int) 0).2)) x ++ l)):=c2;clear hf hok hp
   cases hr:((c.m.M.bT h k).isRef h (k:Int)).1 with
   | true=>
    rw [hr] at c1;have HB2:Hid (c.m.M.bT h (k+1)=((c.m.M.bT h k).set h (k:Int) 0).2):=by show _=_;rw [HB.out,if_pos hr]
    rw [<-HB2.out] at c2;clear HB HB2 hr;generalize ((c.m.M.bT h k).isRef h (k:Int)).2=y1 at*;generalize ((c.m.M.bT h k).set h (k:Int) 0).1=y2 at*;go_wp2_with fail;refine c1.mono ?_;rintro e _ ⟨rfl,rfl⟩;clear c1;go_wp2_with fail;refine c2.mono ?_;rintro e w2 ⟨rfl,hf⟩;have F2:=aA hf;clear c2 hf HF x2;go_wp2_with fail;exact ⟨⟨k+1,by omega,by go_num,F2.out⟩,by simp [intOf];omega⟩
   | false=>
    rw [hr] at c1;have HB2:Hid (c.m.M.bT h (k+1)=c.m.M.bT h k):=by show _=_;rw [HB.out,if_neg (by rw [hr];decide)]
    clear c2 HB hr;generalize ((c.m.M.bT h k).isRef h (k:Int)).2=y1 at*;go_wp2_with fail;refine c1.mono ?_;rintro e _ ⟨rfl,rfl⟩;clear c1;go_wp2_with fail;exact ⟨⟨k+1,by omega,by go_num,by rw [HB2.out];exact HF.out⟩,by simp [intOf];omega⟩
  obtain rfl:k=n:=by omega
  have hlt1:¬ (k:Int)<(k:Int):=by omega
  clear hf;go_wp2_with fail;go_end0;exact hR.out _ _ ⟨rfl,HF.out⟩
theorem aEn (w:World) (hf:Fam w0 w (C5 b c x ++ l)) (hx:x.ok c) (h:c.Okc) (hp:c.ph=1) (hl:c.m.list=[]):Calls prog 302 #[.agg #[.int .i64 2],.pointer (some ⟨b,0,none⟩)] w (aAw w0 l b c.iU):=by
 refine aF fun R hR=>?_;have F0:Hid (Fam w0 (w.alloc (.cells #[.int .i64 2] 163)) (C5 b c x ++ (l ++ [dZ w.heap.size 163 [.int .i64 2]]))):=hf.addRow 163 [.int .i64 2];have HG:=aA h.tg;have hb:=Pst.begin h.tg (h.mo (.inl hp)) (h.t0 (by omega)) hl;have aDg:=hx.mv2;have HR:Hid (∀ w',Fam w0 w' (C5 b c.iU.2 { x with ov:=false } ++ l)->R (.returned (.int .i64 1)) w'):=fun w' h2=>hR.out _ _ ⟨rfl,{ x with ov:=false },⟨fun _=>(decide_eq_false hb.1).symm,fun e=>by (cases e),aDg⟩,h2⟩;clear hf h hb hl hp hR hx aDg;go_in;go_upto_region 1 with fail;obtain ⟨g,hg⟩:∃ g,g=w.heap.size:=⟨_,rfl⟩;rw [<-hg] at F0 ⊢;have r0:=C5.last F0.out;have y0:=r0.cell 0 rfl;obtain ⟨_,_,_,_,_,_,_,_,_,_,xf⟩:=bY.cells F0.out;have x5f:=xf 5;have F1:Hid (Fam w0 ((w.alloc (.cells #[.int .i64 2] 163)).setCell ⟨b,5,none⟩ (.int .i64 2)) (C5 b { c with ph:=2 } x ++ (l ++ [dZ g 163 [.int .i64 2]]))):=C5.rX F0.out 2;have r1:=C5.last F1.out;have y1:=r1.cell 0 rfl;have x7f:=(bY.cells F1.out).2.2.2.2.2.2.2.2.2.2 7;have F2:Hid (Fam w0 (((w.alloc (.cells #[.int .i64 2] 163)).setCell ⟨b,5,none⟩ (.int .i64 2)).setCell ⟨b,7,none⟩ (.bool false)) (C5 b { c with ph:=2 } { x with ov:=false } ++ (l ++ [dZ g 163 [.int .i64 2]]))):=C5.aMF F1.out false;generalize w.alloc (.cells #[.int .i64 2] 163)=w1 at*;clear r0 r1 xf hg;go_upto_region 5 with fail;generalize (w1.setCell ⟨b,5,none⟩ (.int .i64 2)).setCell ⟨b,7,none⟩ (.bool false)=w2 at*;clear y0 y1 x5f x7f F0 F1;have HC:Hid (∀ wx,Fam w0 wx (C5 b { c with ph:=2 } { x with ov:=false } ++ (l ++ [dZ g 163 [.int .i64 2]]))->Calls prog 20 #[.pointer (some ⟨x.tb,0,none⟩),.pointer (some ⟨x.p,0,none⟩)] wx (fun e w'=>e=.returned (.int .i64 (c.t.begin c.m).1)/\Fam w0 w' (C5 b { c with ph:=2,t:=(c.t.begin c.m).2 } { x with ov:=false } ++ (l ++ [dZ g 163 [.int .i64 2]])))):=fun wx hx=>aFx wx (C5.t3 (b:=b) (c:={ c with ph:=2 }) (x:={ x with ov:=false })) (hb:=x.hb) (p:=x.p) (b:=x.tb) (m:=c.m) (t:=c.t) hx HG.out;go_region_held3 (fun w'=>w'.cell? ⟨b,3,none⟩=some (.pointer (some ⟨x.tb,0,none⟩))/\w'.cell? ⟨b,4,none⟩=some (.pointer (some ⟨x.p,0,none⟩)))
  (first|(exact ⟨(C5.row F2.out).cell 3 rfl,(C5.row F2.out).cell 4 rfl⟩)|(exact ⟨(C5.row f3).cell 3 rfl,(C5.row f3).cell 4 rfl⟩))
  (first|(go_at_call 20;refine (HC.out _ F2.out.drew).mono ?_;rintro e w3 ⟨rfl,f3⟩))
 have F3:Hid (Fam w0 w3 (C5 b c.iU.2 { x with ov:=false } ++ l)):=by
  have f4:Fam w0 w3 ((C5 b { c with ph:=2,t:=(c.t.begin c.m).2 } { x with ov:=false } ++ l) ++ [dZ g 163 [.int .i64 2]]):=f3;exact f4.pop
 clear f3 HC F2;go_wp2_with fail;exact HR.out _ F3.out
end
set_option maxHeartbeats 3200000
def QL (l:List Asn) (i j k q r b:Nat) (m:Mk) (t:Tb):List Asn:=RL (l.set k (TrA b t)) i j q r m
section
variable {l:List Asn} {i j k q r b:Nat} {m:Mk} {t:Tb} {w0 w w':World}
theorem QL.self (h:Three l i j k):(QL l i j k q r b m t)[k]?=some (TrA b t):=by
 unfold QL RL;rw [List.getElem?_set_ne (Ne.symm h.kj),List.getElem?_set_ne (Ne.symm h.ki),List.getElem?_set_self h.hk]
theorem QL.put (h:Three l i j k) (t':Tb):(QL l i j k q r b m t).set k (TrA b t')=QL l i j k q r b m t':=by
 unfold QL RL;rw [List.set_comm _ _ (Ne.symm h.kj),List.set_comm _ _ (Ne.symm h.ki),List.set_set]
theorem kN.cells {ev qv wv:Value} {nx:Nat} {wl:List Bool} (h:kN w b ev qv wv nx wl t):w.cell? ⟨b,0,none⟩=some ev/\w.cell? ⟨b,1,none⟩=some qv/\w.cell? ⟨b,2,none⟩=some (.int .i64 (t.ph:Int))/\w.cell? ⟨b,3,none⟩=some (.int .i64 (nx:Int))/\w.cell? ⟨b,4,none⟩=some wv/\∀ k,w.frozen? ⟨b,k,none⟩=false:=by
 obtain ⟨U,h⟩:=h.row;exact ⟨h.cell 0 rfl,h.cell 1 rfl,h.cell 2 rfl,h.cell 3 rfl,h.cell 4 rfl,fun k=>h.free k⟩
theorem kN.same {ev qv wv ev2 qv2 wv2:Value} {nx nx2:Nat} {wl wl2:List Bool} {t2:Tb} (h:kN w b ev qv wv nx wl t) (h2:kN w b ev2 qv2 wv2 nx2 wl2 t2):ev2=ev/\qv2=qv/\wv2=wv:=by
 have e1:=h.cells.1.symm.trans h2.cells.1;have e2:=h.cells.2.1.symm.trans h2.cells.2.1;have e3:=h.cells.2.2.2.2.1.symm.trans h2.cells.2.2.2.2.1;simp only [Option.some.injEq] at e1 e2 e3;exact ⟨e1.symm,e2.symm,e3.symm⟩
theorem QL.tr (h:Three l i j k) (hf:Fam w0 w (QL l i j k q r b m t)):∃ ev qv wv nx wl,kN w b ev qv wv nx wl t:=by
 obtain ⟨S,⟨ev,qv,wv,nx,wl,h1,_⟩,_⟩:=hf.get k (QL.self h);exact ⟨ev,qv,wv,nx,wl,h1⟩
def trS (b:Nat) (ev qv wv:Value) (x:Nat):Prop:=x=b\/ev.ownBlock=some x\/qv.ownBlock=some x\/wv.ownBlock=some x
theorem QL.trT (h:Three l i j k) (hf:Fam w0 w (QL l i j k q r b m t)) {ev qv wv:Value} {nx:Nat} {wl:List Bool} (hm:kN w b ev qv wv nx wl t) (ev' qv' wv':Value) (nx':Nat) (wl':List Bool) (t':Tb) (h1:kN w' b ev' qv' wv' nx' wl' t')
  (h2:∀ x,trS b ev' qv' wv' x->trS b ev qv wv x\/w.heap.size<=x) (h3:aI (trS b ev qv wv) w w'):Fam w0 w' (QL l i j k q r b m t'):=by
 rw [<-QL.put h t' (t:=t)];refine hf.turn k (QL.self h) fun S hS=>?_;obtain ⟨ev2,qv2,wv2,nx2,wl2,hm2,hS⟩:=hS;obtain ⟨rfl,rfl,rfl⟩:=hm.same hm2;exact ⟨trS b ev' qv' wv',⟨ev',qv',wv',nx',wl',h1,fun k=>Iff.rfl⟩,fun k hk=>(h2 k hk).imp (fun x=>(hS k).2 x) id,h3.mono (fun k hk=>.inl ((hS k).2 hk))⟩
theorem kN.rest {ev qv wv:Value} {nx:Nat} {wl:List Bool} (h:kN w b ev qv wv nx wl t) (ho:Only [b] w w'):iF w' 48 0 ev t.ents/\aO w' 0 qv t.q/\Bls w' 0 wv wl:=
 ⟨h.ents.only ho (fun g hg x=>(h.n1 g hg).1 (by simpa using x)),h.q.only ho (fun g hg x=>(h.n2 g hg).1 (by simpa using x)),h.wh.only ho (fun g hg x=>h.n3 (by simp at x;rw [<-x];exact hg))⟩
theorem kN.aN {ev qv wv:Value} {nx:Nat} {wl:List Bool} (h:kN w b ev qv wv nx wl t) (ho:Only [] w w'):kN w' b ev qv wv nx wl t:=by
 obtain ⟨h1,h2,h3⟩:=h.rest (ho.mono (by simp));exact ⟨h.row.imp fun U x=>ho.row x (by simp),h1,h2,h3,h.now,h.two,h.n1,h.n2,h.n3⟩
theorem QL.aBJ (h:Three l i j k) (hf:Fam w0 w (QL l i j k q r b m t)) (ph:Nat) (hp:ph≠2) (nx':Nat) (hn:∀ ev qv wv nx wl,kN w b ev qv wv nx wl t->zQ (t.at ph nx') nx):Fam w0 (w.setCell ⟨b,2,none⟩ (.int .i64 (ph:Int))) (QL l i j k q r b m (t.at ph nx')):=by
 obtain ⟨ev,qv,wv,nx,wl,ht⟩:=QL.tr h hf;have ho:Only [b] w (w.setCell ⟨b,2,none⟩ (.int .i64 (ph:Int))):=(Only.refl _ w).set (.inl (by simp)) _;obtain ⟨h1,h2,h3⟩:=ht.rest ho;exact QL.trT h hf ht ev qv wv nx wl _ ⟨ht.row.imp fun U x=>x.set 2 _,h1,h2,h3,hn _ _ _ _ _ ht,⟨ht.two.1,fun e=>absurd e hp⟩,ht.n1,ht.n2,ht.n3⟩ (fun x hx=>.inl hx) (ho.toP (fun x hx=>.inl (.inl (by simpa using hx))))
theorem QL.aMH (h:Three l i j k) (hf:Fam w0 w (QL l i j k q r b m t)) (n nx':Nat) (hn:zQ (t.at t.ph nx') n):Fam w0 (w.setCell ⟨b,3,none⟩ (.int .i64 (n:Int))) (QL l i j k q r b m (t.at t.ph nx')):=by
 obtain ⟨ev,qv,wv,nx,wl,ht⟩:=QL.tr h hf;have ho:Only [b] w (w.setCell ⟨b,3,none⟩ (.int .i64 (n:Int))):=(Only.refl _ w).set (.inl (by simp)) _;obtain ⟨h1,h2,h3⟩:=ht.rest ho;exact QL.trT h hf ht ev qv wv n wl _ ⟨ht.row.imp fun U x=>x.set 3 _,h1,h2,h3,hn,ht.two,ht.n1,ht.n2,ht.n3⟩ (fun x hx=>.inl hx) (ho.toP (fun x hx=>.inl (.inl (by simpa using hx))))
theorem zQ.self (t:Tb):zQ t t.nx:=⟨fun _=>rfl,fun _=>rfl,fun _=>rfl⟩
theorem aDx (w:World) {ev qv wv:Value} {nx:Nat} {wl:List Bool} (h:kN w b ev qv wv nx wl t) (n:Int):Calls prog 230 #[.pointer (some ⟨b,0,none⟩),.int .i64 n] w (aK w (.int .i64 (t.entry n).2)):=by
 refine aF fun R hR=>?_;obtain ⟨z0,z1,z2,z3,z4,_⟩:=h.cells;obtain ⟨a,c,rfl⟩:=h.ents.len;unfold Tb.entry at hR;clear h
 by_cases h1:n<0
 ·rw [if_pos (.inl h1)] at hR;generalize t.ents.length=len at*;go_in;go_wp2_with fail;exact hR.out _ _ ⟨rfl,rfl⟩
 by_cases h2:(t.ents.length:Int)<=n
 ·rw [if_pos (.inr h2)] at hR;generalize t.ents.length=len at*;go_in;go_wp2_with fail;exact hR.out _ _ ⟨rfl,rfl⟩
 rw [if_neg (fun h=>h.elim h1 h2)] at hR;generalize t.ents.length=len at*;go_in;go_wp2_with fail;exact hR.out _ _ ⟨rfl,rfl⟩
theorem aBL (w:World) {ev qv wv:Value} {nx:Nat} {wl:List Bool} (h:kN w b ev qv wv nx wl t) (n:Int):Calls prog 183 #[.pointer (some ⟨b,0,none⟩),.int .i64 n] w (aK w (.tuple #[.int .i64 (t.target n).1,.int .i64 (t.target n).2])):=by
 refine aF fun R hR=>?_;have ce:=aDx w h n;obtain ⟨z0,z1,z2,z3,z4,_⟩:=h.cells;have HE:=aA h.ents;unfold Tb.entry at ce;unfold Tb.target at hR;clear h
 by_cases h1:n<0\/(t.ents.length:Int)<=n
 ·rw [if_pos h1] at hR ce;clear h1;go_in;go_wp2_with fail;refine ce.mono ?_;rintro e _ ⟨rfl,rfl⟩;go_wp2_with fail;exact hR.out _ _ ⟨rfl,rfl⟩
 rw [if_neg h1] at hR ce;obtain ⟨y,rfl⟩:∃ y:Nat,n=(y:Int):=⟨n.toNat,by omega⟩;rw [Int.toNat_natCast] at hR;have hy:y<t.ents.length:=by omega
 have hy0:(0:Int)<=(y:Int):=by omega
 have hy1:(y:Int)<(t.ents.length:Int):=by omega
 obtain ⟨g,cap,rfl,_,_,c0,c1,c2,_⟩:=HE.out.at hy;generalize eAt t.ents y=en at*;generalize t.ents.length=len at*;clear h1 hy;go_in;go_wp2_with fail;refine ce.mono ?_;rintro e _ ⟨rfl,rfl⟩;go_wp2_with fail;exact hR.out _ _ ⟨rfl,rfl⟩
theorem wI (w:World) (T2:fZ l i j) (hf:Fam w0 w (RL l i j q r m)) (x:Int):Calls prog 161 #[.pointer (some ⟨r,0,none⟩),.int .i64 x] w (fun e w'=>e=.returned (.bool (m.isW x))/\Only [] w w'):=by
 refine aF fun R hR=>?_;have cc:=aAj w T2 hf x;have hW:m.isW x=(decide ((m.color x).2=0) && decide ((m.color x).1=0)):=by
  unfold Mk.isW Mk.color
  cases h:(m.M.ob x).isSome<;>simp
 rw [hW] at hR;clear hf hW;generalize m.color x=rr at*;obtain ⟨c,e⟩:=rr
 by_cases h1:e=0
 ·subst h1
  by_cases h2:c=0
  ·subst h2;go_in;go_wp2_with fail;refine cc.mono ?_;rintro e w1 ⟨rfl,ho⟩;have HO:=aA ho;clear ho cc;go_wp2_with fail;exact hR.out _ _ ⟨rfl,HO.out⟩
  have hc:(c == 0)=false:=by rw [beq_eq_false_iff_ne];exact h2
  have hd:(decide ((0:Int)=0) && decide (c=0))=false:=by simp [h2]
  replace hR:Hid (∀ e w',(e=.returned (.bool false)/\Only [] w w')->R e w'):=by rw [<-hd];exact hR
  clear hd;go_in;go_wp2_with fail;refine cc.mono ?_;rintro e w1 ⟨rfl,ho⟩;have HO:=aA ho;clear ho cc;go_wp2_with fail;exact hR.out _ _ ⟨rfl,HO.out⟩
 have hc:(e == 0)=false:=by rw [beq_eq_false_iff_ne];exact h1
 have hd:(decide (e=0) && decide (c=0))=false:=by simp [h1]
 replace hR:Hid (∀ e w',(e=.returned (.bool false)/\Only [] w w')->R e w'):=by rw [<-hd];exact hR
 clear hd;go_in;go_wp2_with fail;refine cc.mono ?_;rintro e w1 ⟨rfl,ho⟩;have HO:=aA ho;clear ho cc;go_wp2_with fail;exact hR.out _ _ ⟨rfl,HO.out⟩
end
end Go.Proofs.YthflghdaejbdkaaGreat
