import Derived.Test.YtfdoofnmjehecaaGreatDoorBShA
set_option linter.all false
namespace Go.Sen
open _root_.Option renaming bind_eq_bind → ya, bind_eq_some_iff → yb, bind_some → yc
open _root_.Bool renaming and_eq_true → yd, eq_iff_iff → ye, false_eq_true → yf, not_eq_true → yg, not_eq_true' → yh, not_false → yi, or_eq_true → yj
open _root_.List renaming dropWhile_sublist → yk, drop_succ_cons → yl, drop_zero → ym, getElem?_cons_zero → yn, isPrefixOf → yo, length_append → yp, length_cons → yq, length_nil → yr
open IntKind renaming wrap → ys
open Go.Lk Go.Pe
def bl (b:UInt8):Bool:=([32,9,10,13]:Z).contains b
def z1z (s:Z):Z:=s.dropWhile bl
theorem z3t (s:Z):(z1z s).length≤s.length:=(yk _).length_le
theorem z9v (s:Z):M.q3h ⟨s⟩=some ⟨z1z s⟩:=by
 unfold M.q3h M.trimLeft
 rw [z4k (by decide)]
 rfl
def take (s p:Z):Option Z:=if p.isPrefixOf s=true then some (z1z (s.drop p.length)) else none
theorem z2g (s p:Z):M.q3k ⟨s⟩ p=some (match take s p with|some r=>(true,⟨r⟩)|none=>(false,⟨s⟩)):=by
 unfold M.q3k take
 rw [z8n]
 cases h:p.isPrefixOf s with
 | false=>rfl
 | true=>simp [z9v]
theorem take_one (c:UInt8) (s:Z):take s [c]=match s with|[]=>none|d::r=>if d=c then some (z1z r) else none:=by
 unfold take
 cases s with
 | nil=>rfl
 | cons d r =>
  by_cases h:c=d
  ·subst h;simp [yo]
  ·have:¬d=c:=fun e=>h e.symm
   simp [yo,h,this]
theorem take_len {s p r:Z} (h:take s p=some r):r.length+p.length≤s.length:=by
 unfold take at h
 split at h
 ·rename_i hp
  cases h
  have h1:=z3t (s.drop p.length)
  have h2:=zh5 hp
  rw [List.length_drop] at h1
  omega
 ·cases h
def zcu (c:UInt8):Option Nat:=if isD c=true then some (c.toNat - 48) else if 97≤c.toNat∧c.toNat≤102 then some (c.toNat - 87) else if 65≤c.toNat∧c.toNat≤70 then some (c.toNat - 55) else none
def zwl:Z:=[48,49,50,51,52,53,54,55,56,57,97,98,99,100,101,102,65,66,67,68,69,70]
theorem zoa:∀ c:UInt8,zwl.contains c=(zcu c).isSome:=zcg (by decide +kernel)
theorem z4w:∀ c:UInt8,∀ d,zcu c=some d→d<16:=by
 intro c d h
 unfold zcu isD at h
 have:=zrf (b:=c)
 split at h
 ·rename_i hc
  simp only [yd,decide_eq_true_eq] at hc
  cases h
  omega
 ·split at h
  ·cases h;omega
  ·split at h
   ·cases h;omega
   ·cases h
theorem dropWhile_nil {α:Type} (p:α→Bool):∀ l:List α,l.dropWhile p=[]↔∀ b∈l,p b=true
 | []=>by simp
 | a::l=>by
  rw [List.dropWhile_cons]
  cases h:p a with
  | false=>simp [h]
  | true=>simp [h,dropWhile_nil p l]
theorem zk1 (l cs:Z):Lib.trimS l cs=[]↔∀ b∈l,cs.contains b=true:=by
 unfold Lib.trimS Lib.trimLeftS Lib.trimRightS
 rw [dropWhile_nil]
 constructor
 ·intro h
  have h2:l.reverse.dropWhile (cs.contains ·)=[]:=by
   cases hd:l.reverse.dropWhile (cs.contains ·) with
   | nil=>rfl
   | cons a r =>
    have h3:¬cs.contains a=true:=by
     have:=List.head?_dropWhile_not (cs.contains ·) l.reverse
     rw [hd] at this
     simpa using this
    exact absurd (h a (by rw [hd];simp)) h3
  rw [dropWhile_nil] at h2
  exact fun b hb=>h2 b (by simpa using hb)
 ·intro h b hb
  rw [List.mem_reverse] at hb
  exact h b (by simpa using (yk _).subset hb)
def zz9 (x:Int):Option Int :=
 if ((decide (48≤x))&&(decide (x≤57)))=true then some (ys .u8 (x - 48))
 else if ((decide (97≤orI .u8 x 32))&&(decide (orI .u8 x 32≤122)))=true then some (ys .u8 ((ys .u8 (orI .u8 x 32 - 97))+10)) else none
theorem zrx:∀ c:UInt8,∀ d,zcu c=some d→zz9 (c.toNat:Int)=some (d:Int):=by
 have:∀ c:UInt8,(match zcu c with|some d=>decide (zz9 (c.toNat:Int)=some (d:Int))|none=>true)=true:=zcg (by decide +kernel)
 intro c d h
 have h2:=this c
 rw [h] at h2
 simpa using h2
theorem z9k {s:Z} {i n d:Nat} {c:UInt8} (hi:s[i]? = some c) (hl:s.length<1000000) (hd:zcu c=some d) (hn:n<4096) :
  M.zn (s,16) 16 1152921504606846976 16 false (n:Int) (i:Int)=M.zn (s,16) 16 1152921504606846976 16 false ((16*n+d:Nat):Int) ((i+1:Nat):Int):=by
 have hlt:i<s.length:=by
  rcases Nat.lt_or_ge i s.length with h|h
  ·exact h
  ·rw [List.getElem?_eq_none h] at hi;cases hi
 have hd16:=z4w c d hd
 conv=>lhs;rw [M.zn.eq_1]
 have h1:((i:Int)<((unb s).length:Int)):=by rw [z9p];omega
 have h16:¬((16:Int)=0):=by decide
 have h95:(decide ((c.toNat:Int)=95)&&decide ((16:Int)=0))=false:=by simp
 simp only [h1,decide_true,if_true,zcj,zst,hi,Option.map_some,ya,yc,h95,yf,if_false]
 have e0:M.q2x (c.toNat:Int)=some (orI .u8 (c.toNat:Int) 32):=rfl
 simp only [e0,yc]
 have hp:=zrx c d hd
 unfold zz9 at hp
 have fin:∀ q:Option (Jn (Jn (Int × Bool) (Bool × Int)) Int),q=some (.go (d:Int))→(q.bind fun q_381=>match q_381 with
   | .done r=>some r
   | .go j_381=>if decide (ys .u8 16≤j_381)=true then some (.done (0,false)) else if decide (1152921504606846976≤(n:Int))=true then some (.done ((ys .u64 ((z8i .u64 1 (ys .u64 16)) - 1)),false)) else
    if (decide ((ys .u64 ((ys .u64 ((n:Int)*(ys .u64 16)))+(ys .u64 j_381)))<(ys .u64 ((n:Int)*(ys .u64 16))))||decide ((ys .u64 ((z8i .u64 1 (ys .u64 16)) - 1))<(ys .u64 ((ys .u64 ((n:Int)*(ys .u64 16)))+(ys .u64 j_381)))))=true then
     some (.done ((ys .u64 ((z8i .u64 1 (ys .u64 16)) - 1)),false))
    else M.zn (s,16) 16 1152921504606846976 16 false (ys .u64 ((ys .u64 ((n:Int)*(ys .u64 16)))+(ys .u64 j_381))) (ys .i64 ((i:Int)+1)))=M.zn (s,16) 16 1152921504606846976 16 false ((16*n+d:Nat):Int) ((i+1:Nat):Int):=by
  rintro q rfl
  simp only [yc]
  have u16:ys .u8 16=16:=by decide
  have v16:ys .u64 16=16:=by decide
  have m16:ys .u64 ((z8i .u64 1 16) - 1)=65535:=by decide
  rw [u16,v16,m16,wu64 (x:=(n:Int)*16) (by omega) (by omega),wu64 (x:=(d:Int)) (by omega) (by omega),wu64 (x:=(n:Int)*16+(d:Int)) (by omega) (by omega),w1 (by omega)]
  rw [if_neg (by simp;omega),if_neg (by simp;omega),if_neg (by simp;omega)]
  congr 1
  omega
 refine fin _ ?_
 by_cases cd:((decide (48≤(c.toNat:Int)))&&(decide ((c.toNat:Int)≤57)))=true
 ·rw [if_pos cd] at hp ⊢
  simp only [Option.some.injEq] at hp
  rw [hp]
 ·rw [if_neg cd] at hp ⊢
  have ej:(if decide (97≤orI .u8 (c.toNat:Int) 32)=true then some (decide (orI .u8 (c.toNat:Int) 32≤122)) else some false)=some ((decide (97≤orI .u8 (c.toNat:Int) 32))&&(decide (orI .u8 (c.toNat:Int) 32≤122))):=by
   cases decide (97≤orI .u8 (c.toNat:Int) 32)<;>simp
  rw [ej]
  simp only [yc]
  by_cases cl:((decide (97≤orI .u8 (c.toNat:Int) 32))&&(decide (orI .u8 (c.toNat:Int) 32≤122)))=true
  ·rw [if_pos cl] at hp ⊢
   simp only [Option.some.injEq] at hp
   rw [hp]
  ·rw [if_neg cl] at hp;cases hp
theorem zow {a b c d:UInt8} {ha hb hc hd:Nat} (h1:zcu a=some ha) (h2:zcu b=some hb) (h3:zcu c=some hc) (h4:zcu d=some hd) :
  M.q6y [a,b,c,d] 16 16=some ((((16*(16*(16*ha+hb)+hc)+hd:Nat)):Int),true):=by
 have l1:=z4w a ha h1
 have l2:=z4w b hb h2
 have l3:=z4w c hc h3
 have l4:=z4w d hd h4
 have s1:=z9k (s:=[a,b,c,d]) (i:=0) (n:=0) (d:=ha) (c:=a) rfl (by simp) h1 (by omega)
 have s2:=z9k (s:=[a,b,c,d]) (i:=1) (n:=16*0+ha) (d:=hb) (c:=b) rfl (by simp) h2 (by omega)
 have s3:=z9k (s:=[a,b,c,d]) (i:=2) (n:=16*(16*0+ha)+hb) (d:=hc) (c:=c) rfl (by simp) h3 (by omega)
 have s4:=z9k (s:=[a,b,c,d]) (i:=3) (n:=16*(16*(16*0+ha)+hb)+hc) (d:=hd) (c:=d) rfl (by simp) h4 (by omega)
 have s5:M.zn ([a,b,c,d],16) 16 1152921504606846976 16 false ((16*(16*(16*(16*0+ha)+hb)+hc)+hd:Nat):Int) ((3+1:Nat):Int)=some (.go (false,((16*(16*(16*(16*0+ha)+hb)+hc)+hd:Nat):Int))):=by
  rw [M.zn.eq_1]
  simp [unb]
 have s6:M.zn ([a,b,c,d],16) 16 1152921504606846976 16 false 0 0=_:=s1.trans (s2.trans (s3.trans (s4.trans s5)))
 unfold M.q6y M.q2w
 have e1:ys .u64 16=16:=by decide
 simp [e1,z4k,s6]
def unit (s:Z):Option (Nat × Z) :=
 match s with
 | x::y::a::b::c::d::r=>if x=92∧y=117 then (zcu a).bind fun ha=>(zcu b).bind fun hb=>(zcu c).bind fun hc=>(zcu d).bind fun hd=>some (16*(16*(16*ha+hb)+hc)+hd,r) else none
 | _=>none
def oRs {α β:Type} (f:α→β):Option α→Rs β
 | some a => .ok (f a)
 | none => .pan 20
theorem zhl {s r:Z} {n:Nat} (h:unit s=some (n,r)):n<65536∧r.length+6=s.length:=by
 unfold unit at h
 split at h
 ·rename_i x y a b c d r'
  split at h
  ·obtain ⟨ha,h1,h⟩:=yb.1 h
   obtain ⟨hb,h2,h⟩:=yb.1 h
   obtain ⟨hc,h3,h⟩:=yb.1 h
   obtain ⟨hd,h4,h⟩:=yb.1 h
   have l1:=z4w _ _ h1
   have l2:=z4w _ _ h2
   have l3:=z4w _ _ h3
   have l4:=z4w _ _ h4
   cases h
   exact ⟨by omega,by simp⟩
  ·cases h
 ·cases h
theorem zcl (s:Z) (hs:s.length<1000000000):M.q3m ⟨s⟩=some (oRs (fun x=>(((x.1:Nat):Int),(⟨x.2⟩:q0c))) (unit s)):=by
 unfold M.q3m
 rw [z8n]
 have shp:(∃ t,s=92::117::t)∨((([92,117]:Z).isPrefixOf s)=false∧unit s=none):=by
  match s with
  | []=>exact .inr ⟨rfl,rfl⟩
  | [x]=>exact .inr ⟨by simp [yo],rfl⟩
  | x::y::t =>
   by_cases hx:x=92∧y=117
   ·obtain ⟨rfl,rfl⟩:=hx;exact .inl ⟨t,rfl⟩
   ·refine .inr ⟨?_,?_⟩
    ·simp only [yo,Bool.and_true,Bool.and_eq_false_iff,beq_eq_false_iff_ne]
     by_cases h1:x=92
     ·exact .inr fun e=>hx ⟨h1,e.symm⟩
     ·exact .inl fun e=>h1 e.symm
    ·unfold unit
     split
     ·rename_i h;injection h with e1 e2;injection e2 with e3 e4;subst e1 e3;rw [if_neg hx]
     ·rfl
 rcases shp with ⟨t,rfl⟩|⟨h1,h2⟩
 ·have hp:([92,117]:Z).isPrefixOf (92::117::t)=true:=by simp [yo]
  simp only [hp,if_true,yq,yr,yl,ym,ya,yc,Bool.true_and]
  match t with
  | a::b::c::d::r =>
   have hl:(4:Int)≤(((a::b::c::d::r).length:Nat):Int):=by simp only [yq];omega
   have hs4:sub (a::b::c::d::r) 0 4=some [a,b,c,d]:=zjw (a:=4) (by simp)
   have hs5:sub (a::b::c::d::r) 4 (((a::b::c::d::r).length:Nat):Int)=some r:=zhc (a:=4) (by simp)
   simp only [hl,decide_true,if_true,hs4,hs5,yc]
   unfold M.trim
   rw [z4k (by simp)]
   have ee:((decide (Lib.trimS [a,b,c,d] [48,49,50,51,52,53,54,55,56,57,97,98,99,100,101,102,65,66,67,68,69,70]=([]:Z))))=((zcu a).isSome&&((zcu b).isSome&&((zcu c).isSome&&(zcu d).isSome))):=by
    rw [ye,decide_eq_true_iff,zk1]
    have ht:=zoa
    unfold zwl at ht
    simp only [ht,List.mem_cons,List.not_mem_nil,or_false,forall_eq_or_imp,forall_eq,yd]
   simp only [ya,yc,ee,z2z]
   unfold unit
   cases h1:zcu a with
   | none=>simp [oRs,h1]
   | some ha =>
    cases h2:zcu b with
    | none=>simp [oRs,h1,h2]
    | some hb =>
     cases h3:zcu c with
     | none=>simp [oRs,h1,h2,h3]
     | some hc =>
      cases h4:zcu d with
      | none=>simp [oRs,h1,h2,h3,h4]
      | some hd =>
       have l1:=z4w a ha h1
       have l2:=z4w b hb h2
       have l3:=z4w c hc h3
       have l4:=z4w d hd h4
       have hw:ys .i32 ((16*(16*(16*ha+hb)+hc)+hd:Nat):Int)=((16*(16*(16*ha+hb)+hc)+hd:Nat):Int):=w32 (by omega) (by omega)
       have hq:=zow h1 h2 h3 h4
       generalize hN:16*(16*(16*ha+hb)+hc)+hd=N at hw hq
       simp only [Option.isSome_some,Bool.true_and,if_true,hq,yc,hw,h1,h2,h3,h4,and_self]
       simp [oRs]
       omega
  | []=>simp [unit,oRs,z2z]
  | [_]=>simp [unit,oRs,z2z]
  | [_,_]=>simp [unit,oRs,z2z]
  | [_,_,_]=>simp [unit,oRs,z2z]
 ·rw [h1,h2]
  simp [oRs,z2z]
def esc1 (c:UInt8):Option UInt8:=if c=34 then some 34 else if c=92 then some 92 else if c=47 then some 47 else if c=98 then some 8 else if c=102 then some 12 else if c=110 then some 10 else if c=114 then some 13 else if c=116 then some 9 else none
def zpc (n:Nat):Bool:=decide (56320≤n)&&decide (n≤57343)
def ziq (n:Nat):Bool:=decide (55296≤n)&&decide (n≤57343)
def zpa (s:Z):Option (Z × Z) :=
 match s with
 | a::c::r=>match esc1 c with
  | some x=>some ([x],r)
  | none=>match unit (a::c::r) with
   | none=>none
   | some (n,r1)=>if zpc n=true then none else if ziq n=false then some (encS (n:Int),r1) else match unit r1 with
    | none=>none
    | some (m,r2)=>if zpc m=true then some (encS (65536+((n:Int) - 55296)*1024+(m:Int) - 56320),r2) else none
 | _=>none
theorem ztp:∀ c:UInt8,(match esc1 c with
  | some x=>decide (0≤Lib.indexByte [34,92,47,98,102,110,114,116] (c.toNat:Int).toNat.toUInt8∧sub ([34,92,47,8,12,10,13,9]:Z) (Lib.indexByte [34,92,47,98,102,110,114,116] (c.toNat:Int).toNat.toUInt8) (ys .i64 (Lib.indexByte [34,92,47,98,102,110,114,116] (c.toNat:Int).toNat.toUInt8+1))=some [x])
  | none=>decide (¬0≤Lib.indexByte [34,92,47,98,102,110,114,116] (c.toNat:Int).toNat.toUInt8))=true:=zcg (by decide +kernel)
theorem zmk (n:Int):(encS n).length≤4:=by
 unfold encS Utf8.encode
 repeat' split
 all_goals (try simp)
 all_goals (repeat' split)
 all_goals (simp [ByteArray.size])
theorem zgl {s t r:Z} (h:zpa s=some (t,r)):t.length≤4∧r.length+2≤s.length:=by
 unfold zpa at h
 split at h
 ·rename_i a c r'
  split at h
  ·cases h;simp
  ·split at h
   ·cases h
   ·rename_i n r1 hu
    have:=zhl hu
    split at h
    ·cases h
    ·split at h
     ·simp only [Option.some.injEq,Prod.mk.injEq] at h
      obtain ⟨rfl,rfl⟩:=h
      have h9:=zmk (n:Int)
      simp only [yq] at *
      exact ⟨h9,by omega⟩
     ·split at h
      ·cases h
      ·rename_i m r2 hu2
       have:=zhl hu2
       split at h
       ·simp only [Option.some.injEq,Prod.mk.injEq] at h
        obtain ⟨rfl,rfl⟩:=h
        have h9:=zmk (65536+((n:Int) - 55296)*1024+(m:Int) - 56320)
        simp only [yq] at *
        exact ⟨h9,by omega⟩
       ·cases h
 ·cases h
theorem zz005 {n m:Int} (h1:55296≤n) (h2:n≤57343) (h3:56320≤m) (h4:m≤57343) :
  ys .i32 (ys .i32 (ys .i32 (65536+z8i .i32 (ys .i32 (n - 55296)) 10)+m) - 56320)=65536+(n - 55296)*1024+m - 56320:=by
 have s2:z8i .i32 (n - 55296) 10=(n - 55296)*1024:=by
  unfold z8i
  have:min (10:Int).toNat IntKind.i32.bits=10:=by decide
  have h10:(2:Int) ^ 10=1024:=by decide
  rw [this,h10,w32 (by omega) (by omega)]
 rw [w32 (x:=n - 55296) (by omega) (by omega),s2,w32 (x:=65536+(n - 55296)*1024) (by omega) (by omega),w32 (x:=65536+(n - 55296)*1024+m) (by omega) (by omega),w32 (by omega) (by omega)]
theorem rng1 (n:Nat):(decide ((n:Int)<56320)||decide (57343<(n:Int))) = !zpc n:=by
 unfold zpc
 rw [ye,yj,yh,←yg,yd];simp only [decide_eq_true_eq];omega
theorem rng2 (n:Nat):(decide ((n:Int)<55296)||decide (57343<(n:Int))) = !ziq n:=by
 unfold ziq
 rw [ye,yj,yh,←yg,yd];simp only [decide_eq_true_eq];omega
theorem rng3 (m:Nat):(decide (56320≤(m:Int))&&decide ((m:Int)≤57343))=zpc m:=by
 unfold zpc
 rw [ye,yd,yd];simp only [decide_eq_true_eq];omega
theorem zy1 {n:Nat} (h:ziq n=true):55296≤(n:Int)∧(n:Int)≤57343:=by
 unfold ziq at h
 rw [yd] at h;simp only [decide_eq_true_eq] at h;omega
theorem zz025 {n:Nat} (h:zpc n=true):56320≤(n:Int)∧(n:Int)≤57343:=by
 unfold zpc at h
 rw [yd] at h;simp only [decide_eq_true_eq] at h;omega
theorem zdy (s:Z) (hs:s.length<1000000000):M.q3i ⟨s⟩=some (oRs (fun x=>(x.1,(⟨x.2⟩:q0c))) (zpa s)):=by
 unfold M.q3i
 match s with
 | []=>simp [z2z,zpa,oRs]
 | [_]=>simp [z2z,zpa,oRs]
 | a::c::r =>
  have hl:(2:Int)≤(((a::c::r).length:Nat):Int):=by simp only [yq];omega
  have hsub:sub (a::c::r) 2 (((a::c::r).length:Nat):Int)=some r:=zhc (a:=2) (by simp)
  simp only [hl,decide_true,zjb,if_true,ya,yc,ix_1,List.getElem?_cons_succ,yn]
  unfold zpa
  have ht:=ztp c
  unfold M.indexByte
  simp only [yc]
  cases he:esc1 c with
  | some x =>
   rw [he] at ht
   simp only [decide_eq_true_eq] at ht
   rw [if_pos (by simpa using ht.1),hsub]
   simp only [yc]
   rw [ht.2]
   simp [oRs]
  | none =>
   rw [he] at ht
   simp only [decide_eq_true_eq] at ht
   rw [if_neg (by simpa using ht),zcl _ hs]
   simp only [yc]
   cases hu:unit (a::c::r) with
   | none=>simp [oRs]
   | some p =>
    obtain ⟨n,r1⟩:=p
    obtain ⟨u1,u2⟩:=zhl hu
    simp only [oRs]
    rw [rng1,z2z,rng2]
    simp only [yc]
    cases c1:zpc n with
    | true=>simp
    | false =>
     simp only [yi,if_true,yf,if_false]
     cases c2:ziq n with
     | false=>simp
     | true =>
      simp only [Bool.not_true,yf,if_false,Bool.true_eq_false]
      rw [zcl _ (by omega)]
      simp only [yc]
      cases hu2:unit r1 with
      | none=>simp [oRs]
      | some p2 =>
       obtain ⟨m,r2⟩:=p2
       obtain ⟨u3,u4⟩:=zhl hu2
       simp only [oRs]
       rw [rng3,z2z]
       simp only [yc]
       cases c3:zpc m with
       | true =>
        obtain ⟨q1,q2⟩:=zy1 c2
        obtain ⟨q3,q4⟩:=zz025 c3
        simp only [if_true]
        rw [zz005 q1 q2 q3 q4]
       | false=>simp
def txt:Nat→Z→Z→Option (Z × Z)
 | 0,_,_=>none
 | _+1,[],_=>none
 | f+1,c::r,acc=>if c.toNat<32 then none else if c=34 then (if Lib.validD acc=true then some (acc,r) else none)
  else if c=92 then match zpa (c::r) with
   | none=>none
   | some (t,r2)=>txt f r2 (acc++t)
  else txt f r (acc++[c])
def text (s:Z):Option (Z × Z) :=
 match s with
 | c::r=>if c=34 then txt (r.length+1) r [] else none
 | []=>none
theorem zm2:∀ (f:Nat) (s acc t r:Z),txt f s acc=some (t,r)→r.length+1≤s.length∧t.length≤acc.length+4*s.length
 | 0,_,_,_,_,h=>by simp [txt] at h
 | _+1,[],_,_,_,h=>by simp [txt] at h
 | f+1,c::s,acc,t,r,h=>by
  rw [txt] at h
  split at h
  ·cases h
  ·split at h
   ·split at h
    ·cases h;simp
    ·cases h
   ·split at h
    ·split at h
     ·cases h
     ·rename_i t1 r1 he
      have h1:=zgl he
      have h2:=zm2 f _ _ _ _ h
      simp only [yp,yq] at *
      omega
    ·have h2:=zm2 f _ _ _ _ h
     simp only [yp,yq,yr] at *
     omega
theorem zbm {s t r:Z} (h:text s=some (t,r)):r.length+2≤s.length∧t.length≤4*s.length:=by
 unfold text at h
 split at h
 ·split at h
  ·have:=zm2 _ _ _ _ _ h
   simp only [yq,yr] at *
   omega
  ·cases h
 ·cases h
theorem ziy:∀ (f:Nat) (s acc:Z),s.length<f→acc.length+4*s.length<4000000000→s.length<1000000000 →
  M.zv s (unb acc)=some (oRs (fun x=>(x.1,(⟨z1z x.2⟩:q0c))) (txt f s acc)):=by
 intro f
 induction f with
 | zero=>intro s acc h;omega
 | succ f ih =>
  intro s acc hf ha hs
  rw [M.zv.eq_1]
  cases s with
  | nil=>rfl
  | cons c r =>
   simp only [yq] at hf ha hs
   have e1:(decide ((c::r)=([]:Z)))=false:=by simp
   have e2:decide (32≤(c.toNat:Int))=decide (¬c.toNat<32):=decide_eq_decide.2 (by omega)
   have t34:((c.toNat:Int)=34)↔c=34:=toNat_eq (n:=34) (by omega)
   have t92:((c.toNat:Int)=92)↔c=92:=toNat_eq (n:=92) (by omega)
   simp only [e1,yi,if_true,ix_0,yn,ya,yc,e2,z2z,t34,t92]
   rw [txt]
   by_cases c32:c.toNat<32
   ·simp [c32,oRs]
   ·simp only [c32,not_false_eq_true,decide_true,if_true,if_false]
    by_cases c34:c=34
    ·subst c34
     have hq:M.zp (unb acc)=some acc:=z83 acc
     simp only [decide_true,if_true,hq,yc]
     rw [z56 (by omega)]
     simp only [yc]
     by_cases hv:Lib.validD acc=true
     ·simp only [hv,if_true]
      rw [z2g,take_one]
      simp [oRs]
     ·simp [hv,oRs]
    ·simp only [c34,decide_false,yf,if_false]
     by_cases c92:c=92
     ·simp only [c92,decide_true,if_true]
      rw [zdy _ (by simp only [yq];omega)]
      simp only [yc]
      cases he:zpa (92::r) with
      | none=>rfl
      | some p =>
       obtain ⟨t,r2⟩:=p
       have hl:=zgl he
       simp only [yq] at hl
       simp only [oRs]
       rw [z30 (by simp [unb];omega)]
       simp only [yc]
       rw [←z5r,ih r2 (acc++t) (by omega) (by simp;omega) (by omega)]
       rfl
     ·simp only [c92,decide_false,yf,if_false]
      rw [z2o (by simp [unb];omega)]
      simp only [yc]
      have hsub:sub (c::r) 1 (((c::r).length:Nat):Int)=some r:=zhc (a:=1) (by simp)
      rw [hsub]
      simp only [yc]
      have e:unb acc++[(c.toNat:Int)]=unb (acc++[c]):=by simp [unb]
      rw [e,ih r (acc++[c]) (by omega) (by simp;omega) (by omega)]
theorem zck (s:Z) (hs:s.length<900000000):M.q3l ⟨s⟩=some (oRs (fun x=>(x.1,(⟨z1z x.2⟩:q0c))) (text s)):=by
 unfold M.q3l
 rw [z8n,z6o]
 cases s with
 | nil=>rfl
 | cons c r =>
  by_cases h:c=34
  ·subst h
   simp only [List.head?_cons,decide_true,if_true,yq,yr,yl,ym,ya,yc,z2z]
   simp only [yq] at hs
   exact ziy (r.length+1) r [] (by omega) (by simp;omega) (by omega)
  ·simp [h,z2z,oRs,text]
end Go.Sen
