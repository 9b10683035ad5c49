/- Package inflate: the walk of row. -/
import Derived.Test.YtfkcdnaghndgfaaGreatDoorQAG
import Derived.Test.YtfkcdnaghndgfaaGreatDoorQAC
import Derived.Test.YtfkcdnaghndgfaaGreatDoorQAE
set_option linter.unusedVariables false
set_option linter.unusedSimpArgs false
set_option linter.unusedSectionVars false
namespace Go.Proofs.YtfkcdnaghndgfaaGreatDoor
open Go.RowKit
def xS (s:ByteArray) (k:Nat) (L:List Nat) (a:Nat):Except Nat ((Nat×Nat)×Nat):=if 15<k then xa s k L a else .ok ((1,k),a)
def qi (l:List Int) (s:ByteArray) (many:Nat):Nat→List Nat→Nat→Except Nat (List Nat×Nat)
 | 0,L,a => .ok (L,a)
 | f+1,L,a =>
   if L.length<many then
    match yc l s a with
    | .error c => .error c
    | .ok r =>
      match xS s r.1 L r.2 with
      | .error c => .error c
      | .ok q=>if q.1.1≤many-L.length then qi l s many f (L++List.replicate q.1.1 q.1.2) q.2 else .error 2
   else .ok (L,a)
theorem Yv {l:List Int} {s:ByteArray} {many f a:Nat} {L:List Nat} (h : ¬ L.length<many):qi l s many f L a = .ok (L,a):=by
 cases f<;>simp [qi,h]
theorem ziy (n:List Nat) (k i j:Nat) {x:Nat} (h:(idx n k i)[j]? =some x):x<i:=by
 have:=List.mem_of_getElem? h
 simp only [idx,List.mem_filter,List.mem_range] at this
 exact this.1
theorem zf3 {n:List Nat} {k c x:Nat} (h:qx n k c=some x) (hk:1≤k):x<n.length:=by
 unfold qx at h
 split at h
 · rename_i hr
   have hl:=jG n k hk
   have hj:c-fst n k<(idx n k n.length).length:=by omega
   have hx:(idx n k n.length).getD (c-fst n k) 0=x:=Option.some.inj h
   rw [List.getD,List.getElem?_eq_getElem hj] at hx
   exact ziy n k n.length (c-fst n k) (by rw [List.getElem?_eq_getElem hj]; exact congrArg some hx)
 · cases h
theorem zc2 (n:List Nat) (s:ByteArray) (f k a c:Nat) (hk:1≤k) {x:Nat} (h:(xR n s f k a c).1=some x):x<n.length:=by
 induction f generalizing k a c with
 | zero=>cases h
 | succ f ih =>
   by_cases h1:a<8*s.size
   · cases hx:qx n k (2*c+zu s a 1) with
     | some y=>rw [jz h1 hx] at h; cases h; exact zf3 hx hk
     | none=>rw [jy h1 hx] at h; exact ih _ _ _ (by omega) h
   · rw [kJ h1] at h; cases h
theorem vT (l:List Int) (s:ByteArray) (a:Nat) (ha:a≤8*s.size):(∃ x a',x<l.length∧a'≤8*s.size∧a≤a'∧yc l s a = .ok (x,a')) ∨ ∃ c,(c=2∨c=3)∧yc l s a = .error c:=by
 unfold yc
 split
 · exact .inr ⟨2,.inl rfl,rfl⟩
 · have hle:=zhW (ze l) s 15 1 a 0 ha
   have hlt:=fun x=>@zc2 (ze l) s 15 1 a 0 (by omega) x
   have e:nxt (ze l) s a false=xR (ze l) s 15 1 a 0:=rfl
   rw [e]
   generalize xR (ze l) s 15 1 a 0=rr at *
   obtain ⟨o,a',bad⟩:=rr
   cases o with
   | some x=>exact .inl ⟨x,a',by have:=hlt x rfl; rwa [zZ] at this,hle.2.1,hle.1,rfl⟩
   | none=>cases bad with
     | true=>exact .inr ⟨3,.inr rfl,rfl⟩
     | false=>exact .inr ⟨2,.inl rfl,rfl⟩
theorem zch (s:ByteArray) (k:Nat) (L:List Nat) (a:Nat) (ha:a≤8*s.size) (hk:k≤18) (hL : ∀ x∈L,x≤15) :
 (∃ n v a',1≤n∧n≤200∧v≤15∧a'≤8*s.size∧xS s k L a = .ok ((n,v),a')) ∨ ∃ c,(c=2∨c=3)∧xS s k L a = .error c:=by
 unfold xS
 split
 · unfold xa
   split
   · split
     · exact .inr ⟨2,.inl rfl,rfl⟩
     · rename_i hL0
       rcases zA s a 2 with ⟨t,ht,hta,h⟩ | h
       · rw [h]; refine .inl ⟨3+t,L.getLastD 0,a+2,by omega,by omega,?_,hta,rfl⟩
         rw [List.getLastD_eq_getLast?,List.getLast?_eq_some_getLast hL0]
         exact hL _ (List.getLast_mem hL0)
       · rw [h]; exact .inr ⟨3,.inr rfl,rfl⟩
   · split
     · rcases zA s a 3 with ⟨t,ht,hta,h⟩ | h
       · rw [h]; exact .inl ⟨3+t,0,a+3,by omega,by omega,by omega,hta,rfl⟩
       · rw [h]; exact .inr ⟨3,.inr rfl,rfl⟩
     · rcases zA s a 7 with ⟨t,ht,hta,h⟩ | h
       · rw [h]; exact .inl ⟨11+t,0,a+7,by omega,by omega,by omega,hta,rfl⟩
       · rw [h]; exact .inr ⟨3,.inr rfl,rfl⟩
 · exact .inl ⟨1,k,a,by omega,by omega,by omega,ha,rfl⟩
def zhQ (w:World) (b:Nat) (s:ByteArray) (r:Except Nat (List Nat×Nat)) (e:Ending) (w':World):Prop :=
 match r with
 | .ok (L,a') => ∃ v,e = .returned v∧Row w' 3 1 v L.length (zf L)∧RdAt w' b 194 s a' false∧Upd [b] w w' ∧ ∀ k,v.ownBlock=some k→w.heap.size≤k
 | .error c=>e = .panicked [{ v := .iface 27 (.int .i64 (c:Nat)),recovered:=false }]∧Upd [b] w w'
def zbX (w0:World) (b:Nat) (s:ByteArray) (L:List Nat) (v:Value) (a:Nat) (wr:World):Prop :=
 Row wr 3 1 v L.length (zf L)∧RdAt wr b 194 s a false∧Upd [b] w0 wr∧(∀ k,v.ownBlock=some k→w0.heap.size≤k) ∧ ∀ x∈L,x≤15
set_option maxRecDepth 100000 in
set_option maxHeartbeats 3200000 in
theorem zhZ (b many:Nat) (dv:Value) (l:List Int) (w:World) (s:ByteArray) (a:Nat) (hR:RdAt w b 194 s a false) (hs:s.size≤1099511627776) (hD:DecFor w dv l b) (hl:l.length≤19) (hm:many≤1000) :
 Calls Tryz.prog 182 #[.agg #[.pointer (some ⟨b,0,none⟩)],dv,.int .i64 (many:Nat)] w
  (zhQ w b s (qi l s many many [] a)):=by
 have hblt:=hR.1.lt
 have hU0:Upd [] w (w.alloc (.cells #[.pointer (some ⟨b,0,none⟩)] 153)):=(Upd.refl [] w).alloc _
 have hP:=(Blk.new w [.pointer (some ⟨b,0,none⟩)] 153)
 have hR0:=hR.upd hU0 (by simp)
 have hU0b:Upd [b] w (w.alloc (.cells #[.pointer (some ⟨b,0,none⟩)] 153)):=hU0.mono (by simp)
 have hD0:DecFor (w.alloc (.cells #[.pointer (some ⟨b,0,none⟩)] 153)) dv l b:=hD.upd hU0b
 have hsz0:(w.alloc (.cells #[.pointer (some ⟨b,0,none⟩)] 153)).heap.size=w.heap.size+1:=by simp
 obtain ⟨i0,hi0,hz0,hz1,hz2⟩:=info_parts qr
 go_enter Tryz.func182,Tryz.ntmps182
 go_wp2
 have hRel0:zbX (w.alloc (.cells #[.pointer (some ⟨b,0,none⟩)] 153)) b s [] (.slice none 0 0) a (w.alloc (.cells #[.pointer (some ⟨b,0,none⟩)] 153)) :=
  ⟨Row.nil _ _ _,hR0,.refl _ _,by simp [Value.ownBlock],by simp⟩
 have hU0b':=Lib.hid hU0b
 clear hR hD hR0 hU0 hU0b
 generalize w.alloc (.cells #[.pointer (some ⟨b,0,none⟩)] 153)=w0 at *
 go_loopg [6] many (fun g s6 wr => ∃ L f a',L.length≤many∧g=many-L.length∧many≤f+L.length∧qi l s many many [] a=qi l s many f L a'∧zbX w0 b s L s6 a' wr)
 case atStart=>exact ⟨[],many,a,by simp,by simp,by simp,rfl,hRel0⟩
 case round =>
  obtain ⟨L,f,a',hLm,rfl,hf,hrow,hRow,hRd,hU,hfr,h15⟩:=hrel
  clear hRel0
  obtain ⟨va,vc,rfl⟩:=hRow.form
  by_cases hc:L.length<many
  · have hcz:(L.length:Int)<(many:Int):=by omega
    obtain ⟨f,rfl⟩ : ∃ f',f=f'+1:=⟨f-1,by omega⟩
    have hstep:qi l s many (f+1) L a'=match yc l s a' with
     | .error c => .error c
     | .ok r =>
       match xS s r.1 L r.2 with
       | .error c => .error c
       | .ok q=>if q.1.1≤many-L.length then qi l s many f (L++List.replicate q.1.1 q.1.2) q.2 else .error 2:=by
     simp only [qi]; rw [if_pos hc]
    have c0:=(hP.upd hU (by simp; omega)).cell 0 rfl
    rcases vT l s a' hRd.2 with ⟨x,a1,hx,ha1,_,hn⟩ | ⟨c,_,hn⟩
    · rw [hn] at hstep
      have HN:=Lib.hid (ZU hRd hs (hD0.upd hU) hn)
      have HROW:=Lib.hid (hrow.trans hstep)
      clear hrow hstep hn
      have HONE:=Lib.hid (zch s x L a1 ha1 (by omega) h15)
      go_wp2_with fail
      refine HN.out.mono ?_
      rintro e w4 ⟨rfl,hR4,hU4⟩
      have hUw4:=hU.then hU4
      have hRow4:=hRow.upd hU4 (fun k hk hm=>by have:=hfr k hk; simp at hm; omega)
      have c4:=(hP.upd hUw4 (by simp; omega)).cell 0 rfl
      have hvb:(Value.slice va L.length vc).ownBlock≠some b:=fun h=>by have:=hfr b h; omega
      rcases HONE.out with ⟨n,k,a2,hn1,hn2,hk15,ha2,hone⟩ | ⟨c,_,hone⟩
      · have hrow2:=HROW.out
        rw [hone] at hrow2
        have HROW2:=Lib.hid hrow2
        have HONE2:=Lib.hid hone
        clear hone hrow2 HROW HONE
        go_upto_if 17 with fail
        go_cut [7,8,18,19,20,21,22,23,24] (fun s7 s8 s18 s19 s20 s21 s22 s23 s24 wx=>s7 = .int .i64 (n:Nat)∧s8 = .int .i64 (k:Nat)∧RdAt wx b 194 s a2 false∧Upd [b] w4 wx)
        case first =>
         by_cases hx15:15<x
         · have hxz:decide ((15:Int)<(x:Int))=true:=decide_eq_true (by omega)
           have ha:=VK b x _ L w4 s a1 hR4 hs hRow4 hvb (by omega) h15 (by omega)
           have hone':xa s x L a1 = .ok ((n,k),a2):=by rw [← HONE2.out]; unfold xS; rw [if_pos hx15]
           rw [hone'] at ha
           have HA:=Lib.hid ha
           clear ha hone'
           go_wp2_with fail
           refine HA.out.mono ?_
           rintro e w5 ⟨rfl,hR5,hU5⟩
           go_wp2_with fail
           go_meet
           exact ⟨rfl,rfl,hR5,hU5⟩
         · have hxz:decide ((15:Int)<(x:Int))=false:=decide_eq_false (by omega)
           have hone':xS s x L a1 = .ok ((1,x),a1):=by unfold xS; rw [if_neg hx15]
           rw [HONE2.out] at hone'
           cases hone'
           go_wp2
           go_meet
           exact ⟨rfl,rfl,hR4,.refl _ _⟩
        case rest =>
         obtain ⟨rfl,rfl,hR5,hU5⟩:=hcut
         have hU05:=hUw4.then hU5
         have hRow5:=hRow4.upd hU5 (fun k hk hm=>by have:=hfr k hk; simp at hm; omega)
         clear HN hRow hRow4 hU4 hU hR4 hRd hUw4 hU5 c4 c0
         by_cases hfit:n≤many-L.length
         · have hfz:decide ((n:Int)≤(many:Int)-(L.length:Int))=true:=decide_eq_true (by omega)
           have hE:=HROW2.out
           rw [if_pos hfit] at hE
           have HE:=Lib.hid hE
           clear hE
           go_wp2_with fail
           refine (yw _).mono ?_
           rintro e w6 ⟨rfl,rfl⟩
           go_wp2
           go_loopg [6,33] n (fun g s6 s33 wx => ∃ j,j≤n∧g=n-j∧s33 = .int .i64 (j:Nat)∧zbX w0 b s (L++List.replicate j k) s6 a2 wx)
           case atStart=>exact ⟨0,by omega,rfl,rfl,by simpa using hRow5,hR5,hU05,hfr,by simpa using h15⟩
           case round =>
            obtain ⟨j,hjn,rfl,rfl,hRow6,hR6,hU6,hfr6,h156⟩:=hrel
            clear hRow5 hR5 hU05 hfr
            by_cases hcj:j<n
            · have hcz2:(j:Int)<(n:Int):=by omega
              have hL6:(L++List.replicate j k).length≤2000:=by simp; omega
              have hsn:=Lib.hid (show L++List.replicate (j+1) k=(L++List.replicate j k)++[k] by rw [List.replicate_succ',List.append_assoc])
              generalize L++List.replicate j k=M at *
              go_wp2_with (at_builtin; refine zC _ rfl _ _ 98 rfl 3 i0 _ 1 8 Tryz.underlying98 hi0 hz0 hz1 hz2 rfl (by omega) _ M.length _ rfl (hRow6.alloc _) ⟨wr.heap.size,0,none⟩ 1 1 [_] rfl rfl (World.news_of_block (cs := #[_]) (t:=3) (fr:=(0,0)) (heap_alloc_new _ _)) (by simp [Value.oneCell']) (by unfold maxLen; omega) (by omega) ?_)
              intro v2 w7 hR7 hU7 hT7
              go_wp2
              go_roundg (n-(j+1))
              case measure=>omega
              case rel =>
               refine ⟨j+1,by omega,rfl,by go_num,?_,(hR6.upd ((Upd.refl [] _).alloc _) (by simp)).upd hU7 ?_,(hU6.alloc _).trans hU7 ?_,?_,?_⟩
               · rw [hsn.out,List.length_append,show zf (M++[k])=zf M++[.int .i64 (k:Int)] by simp [zf]]
                 exact hR7
               · intro hm
                 have:=hfr6 b (by simpa using hm)
                 omega
               · intro q hq; right; exact hfr6 q (by simpa using hq)
               · intro q hq
                 rcases hT7 with h | ⟨g,h1,h2⟩
                 · exact hfr6 q (by rw [← h]; exact hq)
                 · rw [h1] at hq; simp at hq h2; have:=hU6.size; omega
               · rw [hsn.out]
                 intro q hq
                 rcases List.mem_append.1 hq with h | h
                 · exact h156 q h
                 · simp at h; omega
            · have hcz2 : ¬ (j:Int)<(n:Int):=by omega
              have hj:j=n:=by omega
              subst hj
              go_wp2
              go_roundg (many-(L++List.replicate j k).length)
              case measure=>simp; omega
              case rel =>
               refine ⟨L++List.replicate j k,f,a2,by simp; omega,rfl,by simp; omega,HE.out,hRow6,hR6,hU6,hfr6,h156⟩
         · have hfz:decide ((n:Int)≤(many:Int)-(L.length:Int))=false:=decide_eq_false (by omega)
           have hE:=HROW2.out
           rw [if_neg hfit] at hE
           have HE:=Lib.hid hE
           clear hE
           go_wp2_with fail
           refine (yR _).mono ?_
           rintro e w6 ⟨rfl,rfl⟩
           go_wp2
           rw [HE.out]
           exact ⟨rfl,rfl,hU0b'.out.then hU05⟩
      · have hrow2:=HROW.out
        rw [hone] at hrow2
        have HE:=Lib.hid hrow2
        have hx15:15<x:=by
         apply Classical.byContradiction
         intro h
         unfold xS at hone
         rw [if_neg h] at hone
         cases hone
        have hxz:(15:Int)<(x:Int):=by omega
        have ha:=VK b x _ L w4 s a1 hR4 hs hRow4 hvb (by omega) h15 (by omega)
        have hone':xa s x L a1 = .error c:=by rw [← hone]; unfold xS; rw [if_pos hx15]
        rw [hone'] at ha
        have HA:=Lib.hid ha
        clear ha hone hone' hrow2 HROW HONE
        go_wp2_with fail
        refine HA.out.mono ?_
        rintro e w5 ⟨rfl,hU5⟩
        go_wp2
        rw [HE.out]
        exact ⟨rfl,rfl,hU0b'.out.then (hUw4.then hU5)⟩
    · rw [hn] at hstep
      have HN:=Lib.hid (QV hRd hs (hD0.upd hU) hn)
      have HE:=Lib.hid (hrow.trans hstep)
      clear hrow hstep hn
      generalize L.length=N at *
      go_wp2_with fail
      refine HN.out.mono ?_
      rintro e w4 ⟨rfl,hU4⟩
      go_wp2
      rw [HE.out]
      exact ⟨rfl,rfl,hU0b'.out.then (hU.then hU4)⟩
  · have hcz : ¬ (L.length:Int)<(many:Int):=by omega
    rw [Yv hc] at hrow
    have HE:=Lib.hid hrow
    clear hrow
    go_wp2
    go_returns
    rw [HE.out]
    exact ⟨_,rfl,hRow,hRd,hU0b'.out.then hU,fun k hk=>by have:=hfr k hk; omega⟩
end Go.Proofs.YtfkcdnaghndgfaaGreatDoor
namespace Go.Proofs.YtfkcdnaghndgfaaGreatDoor
open Go.RowKit
set_option maxRecDepth 100000 in
set_option maxHeartbeats 1600000 in
theorem Zh (x:Option Addr) (cap:Nat) (l:List Int) (w:World) (hlen:l.length≤100000) (hI:IntsIn w x l.length l) :
 Calls Tryz.prog 183 #[.slice x l.length cap] w fun e w'=>e = .returned (.bool (ye l))∧Upd [] w w':=by
 have HK:=Lib.hid (kF x l.length cap l w (by omega) hI)
 have HI:=Lib.hid hI
 clear hI
 by_cases h1:zg l=1
 · have hl:=Lib.hid (show ye l=true by unfold ye; simp [h1])
   rw [h1] at HK
   clear h1
   go_enter Tryz.func183,Tryz.ntmps183
   go_wp2_with fail
   refine HK.out.mono ?_
   rintro e w1 ⟨rfl,hU1⟩
   go_wp2
   go_returns
   exact ⟨by rw [hl.out]; rfl,hU1⟩
 · have hl:=Lib.hid (show ye l=(decide (jn l=1)&&decide (JE l=1)) by unfold ye; simp [h1])
   obtain ⟨kk,hkk⟩ : ∃ kk,zg l=kk:=⟨_,rfl⟩
   rw [hkk] at HK h1
   have hkf:((kk:Int)==1)=false:=by simp; omega
   clear hkk h1
   go_enter Tryz.func183,Tryz.ntmps183
   go_wp2_with fail
   refine HK.out.mono ?_
   rintro e w1 ⟨rfl,hU1⟩
   go_wp2
   go_loopg [3,4,12] l.length (fun g s3 s4 s12 wr => ∃ i,i≤l.length∧g=l.length-i∧s12 = .int .i64 (i:Nat)∧s3 = .int .i64 (jn (l.take i):Nat)∧s4 = .int .i64 (JE (l.take i):Nat)∧w1=wr)
   case atStart=>exact ⟨0,by omega,rfl,rfl,rfl,rfl,rfl⟩
   case round =>
    obtain ⟨i,hin,rfl,rfl,rfl,rfl,rfl⟩:=hrel
    have hb1:=XJ (l.take i)
    have hb2:=zhi (l.take i)
    have hb3:(l.take i).length≤100000:=by simp; omega
    by_cases hc:i<l.length
    · have hcz:(i:Int)<(l.length:Int):=by omega
      obtain ⟨b,off,rfl,c0,_,_⟩:=(HI.out.pure hU1).cell i hc
      have hu:=Yn hc
      have ho:=zdt hc
      generalize jn (l.take i)=u at *
      generalize JE (l.take i)=o at *
      generalize l[i]=y at *
      by_cases h1:y=1
      · subst h1
        rw [if_pos (by omega)] at hu
        rw [if_pos rfl] at ho
        have HU:=Lib.hid hu
        have HO:=Lib.hid ho
        clear hu ho
        go_wp2
        go_roundg (l.length-(i+1))
        case measure=>omega
        case rel=>exact ⟨i+1,by omega,rfl,by go_num,by rw [HU.out]; go_num,by rw [HO.out]; go_num,rfl⟩
      · have h1f:(y==1)=false:=by simpa using h1
        rw [if_neg h1] at ho
        have HO:=Lib.hid ho
        clear ho
        by_cases h0:0<y
        · rw [if_pos h0] at hu
          have HU:=Lib.hid hu
          clear hu h1
          go_wp2
          go_roundg (l.length-(i+1))
          case measure=>omega
          case rel=>exact ⟨i+1,by omega,rfl,by go_num,by rw [HU.out]; go_num,by rw [HO.out]; go_num,rfl⟩
        · rw [if_neg h0] at hu
          have HU:=Lib.hid hu
          clear hu h1
          go_wp2
          go_roundg (l.length-(i+1))
          case measure=>omega
          case rel=>exact ⟨i+1,by omega,rfl,by go_num,by rw [HU.out]; go_num,by rw [HO.out]; go_num,rfl⟩
    · have hcz : ¬ (i:Int)<(l.length:Int):=by omega
      have hi:i=l.length:=by omega
      rw [hi,List.take_length] at hb1 hb2 ⊢
      have hcz2 : ¬ (l.length:Int)<(l.length:Int):=by omega
      clear hi hc hcz
      generalize jn l=u at *
      generalize JE l=o at *
      by_cases hu:u=1
      · subst hu
        by_cases ho:o=1
        · subst ho
          go_wp2
          go_returns
          exact ⟨by rw [hl.out]; rfl,hU1⟩
        · have hof:((o:Int)==1)=false:=by simp; omega
          go_wp2
          go_returns
          exact ⟨by rw [hl.out]; simp [ho],hU1⟩
      · have huf:((u:Int)==1)=false:=by simp; omega
        go_wp2
        go_returns
        exact ⟨by rw [hl.out]; simp [hu],hU1⟩
theorem Ye (w:World):Calls Tryz.prog 180 #[] w fun e w'=>e = .returned (.slice (some ⟨w.heap.size,0,none⟩) 19 19)∧w.alloc (.cells (zf [16,17,18,0,8,7,9,6,10,5,11,4,12,3,13,2,14,1,15]).toArray 3)=w':=by
 go_enter Tryz.func180,Tryz.ntmps180
 go_wp2
 go_returns
 exact ⟨rfl,rfl⟩
end Go.Proofs.YtfkcdnaghndgfaaGreatDoor
