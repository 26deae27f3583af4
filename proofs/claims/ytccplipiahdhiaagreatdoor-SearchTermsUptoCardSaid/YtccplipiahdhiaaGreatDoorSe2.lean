/- SearchTerms: each word is found as often as it says; those that begin so are those of all that do. -/
import Derived.Laws.Closers25b
import Derived.Shelf.Unicode.DecodeAny
import Derived.Test.YtccplipiahdhiaaGreatDoorProg
import Derived.Laws.IdiomStrings
import Derived.Lib.TrimUEq
import Derived.Lib.Strings
import Derived.Test.YtccplipiahdhiaaGreatDoorSe1
namespace Go.Proofs.YtccplipiahdhiaaGreatDoor
open Go.RowKit Go.Vc
set_option linter.unusedVariables false
set_option linter.unusedSimpArgs false
set_option maxRecDepth 100000
def begins (c:UInt8):Bool:=(97≤c && c≤122) || (65≤c && c≤90) || c == 95
def inn (c:UInt8):Bool:=begins c || (48≤c && c≤57) || c == 45 || c == 46
def maxName:Nat:=32
theorem begins_inn {c:UInt8} (h:begins c=true):inn c=true:=by simp [inn,h]
theorem bytes_eq (a b:ByteArray):(a.toList == b.toList)=decide (a=b):=by
 rw [ByteArray.toList_eq,ByteArray.toList_eq]
 by_cases h:a=b
 ·subst h;simp
 ·rw [decide_eq_false h]
  obtain⟨⟨a⟩⟩:=a
  obtain⟨⟨b⟩⟩:=b
  simp only [beq_eq_false_iff_ne,ne_eq]
  intro e
  apply h
  rw [show a=b from e]
theorem begins_eq (c:UInt8):begins c=decide ((97≤c.toNat∧c.toNat≤122)∨(65≤c.toNat∧c.toNat≤90)∨c.toNat=95):=by
 rw [Bool.eq_iff_iff]
 simp only [begins,Bool.or_eq_true,Bool.and_eq_true,decide_eq_true_eq,beq_iff_eq,UInt8.le_iff_toNat_le,←UInt8.toNat_inj,UInt8.reduceToNat,or_assoc]
theorem inn_eq (c:UInt8):inn c=(begins c || decide ((48≤c.toNat∧c.toNat≤57)∨c.toNat=45∨c.toNat=46)):=by
 rw [Bool.eq_iff_iff]
 simp only [inn,Bool.or_eq_true,Bool.and_eq_true,decide_eq_true_eq,beq_iff_eq,UInt8.le_iff_toNat_le,←UInt8.toNat_inj,UInt8.reduceToNat,or_assoc]
section
variable {w:World}
end
section
variable {w:World}{R:Ending→World→Prop}
theorem letter_F {c:UInt8}{w:World}{R:Ending→World→Prop} (h:R (.returned (.bool (begins c))) w):F198 c.toNat w R:=by
 unfold F198
 rw [begins_eq] at h
 have t:((97≤c.toNat∧c.toNat≤122)∨(65≤c.toNat∧c.toNat≤90)∨c.toNat=95)→R (.returned (.bool true)) w:=fun k=>by rw [decide_eq_true k] at h;exact h
 have f:¬((97≤c.toNat∧c.toNat≤122)∨(65≤c.toNat∧c.toNat≤90))→R (.returned (.bool ((c.toNat:Int) == 95))) w:=fun k=>by
  have e:((c.toNat:Int) == 95)=decide ((97≤c.toNat∧c.toNat≤122)∨(65≤c.toNat∧c.toNat≤90)∨c.toNat=95):=by
   rw [Bool.eq_iff_iff];simp;omega
  rw [e];exact h
 repeat' refine brd (fun _=>?_) (fun _=>?_)
 all_goals first | exact t (by omega) | exact f (by omega)
theorem letter_calls {c:UInt8} (h:R (.returned (.bool (begins c))) w):Calls Tryz.prog 198 #[.int .u8 (c.toNat:Int)] w R:=ok198 _ (letter_F h)
def isName (a:ByteArray):Bool:=match a.data.toList with
 | []=>false
 | c :: r=>decide ((c :: r).length≤maxName) && begins c && r.all inn
theorem ba_get {s:ByteArray}{i:Nat} (h:i < s.size):s[i]?=some s[i]:=by
 exact getElem?_pos s i h
theorem ba_list {s:ByteArray}{i:Nat} (h:i < s.size):s.data.toList[i]?=some s[i]:=by
 rw [List.getElem?_eq_getElem (by simpa using h)]
 exact congrArg some (by simp;rfl)
theorem name_calls {s:ByteArray} (h:R (.returned (.bool (isName s))) w):Calls Tryz.prog 185 #[.string s] w R:=by
 refine ok185 _ ?_
 unfold F185
 have hz:s.data.toList.length=s.size:=by simp
 cases hs:s.data.toList with
 | nil =>
  have e:isName s=false:=by simp [isName,hs]
  rw [e] at h
  have hsz:s=ByteArray.mk #[]:=by
   obtain⟨⟨l⟩⟩:=s
   have:l=[]:=hs
   subst this;rfl
  refine⟨fun _=>False,fun _ hf=>hf.elim,?_⟩
  rw [bytes_eq,decide_eq_true hsz]
  exact h
 | cons c r =>
  rw [hs] at hz
  have hne:s≠ByteArray.mk #[]:=by rintro rfl;simp at hs
  have h0:0 < s.size:=by rw [←hz];simp
  have hc:s[0]=c:=by
   have:=ba_list h0
   rw [hs] at this
   simpa using this.symm
  refine⟨fun w1=>w1=w∧s.size≤32∧begins c=true,?_,?_⟩
  ·rintro w1 ⟨rfl,h32,hb⟩
   unfold F185_j3
   refine⟨fun i w1'=>∃k:Nat,i=k∧k≤s.size∧w1'=w1∧∀x∈s.data.toList.take k,inn x=true,fun i _=>s.size-i.toNat,⟨0,rfl,by omega,rfl,by simp⟩,?_⟩
   rintro i w2 ⟨k,rfl,hk,rfl,hall⟩
   unfold F185_l4
   refine brd (fun hlt=>?_) (fun hge=>?_)
   ·have hlt':k < s.size:=by omega
    have next:inn s[k]=true→∀x∈s.data.toList.take (k+1),inn x=true:=fun hi x hx=>by
     rw [List.take_add_one,ba_list hlt'] at hx
     rcases List.mem_append.1 hx with hx | hx
     ·exact hall x hx
     ·simp at hx;subst hx;exact hi
    refine⟨fun w3=>w3=w2∧inn s[k]=true,?_,?_⟩
    ·rintro w3 ⟨rfl,hi⟩
     unfold F185_j9
     exact⟨inR_i64 (by omega) (by omega),⟨k+1,by simp,by omega,rfl,next hi⟩,by dsimp only;omega⟩
    ·refine⟨by omega,s[k],by simp [ba_get hlt'],?_⟩
     refine letter_calls ⟨_,rfl,?_⟩
     have hR:inn s[k]=false→R (.returned (.bool false)) w2:=fun hi=>by
      have e:isName s=false:=by
       simp only [isName,hs]
       rw [Bool.and_eq_false_iff]
       have hk0:k≠0:=by rintro rfl;rw [hc,begins_inn hb] at hi;cases hi
       right
       rw [List.all_eq_false]
       refine⟨s[k],?_,by simp [hi]⟩
       have h1:=ba_list hlt'
       rw [hs] at h1
       obtain⟨k',rfl⟩:∃k',k=k'+1:=⟨k-1,by omega⟩
       rw [List.getElem?_cons_succ] at h1
       exact List.mem_of_getElem? h1
      rw [e] at h;exact h
     have hin:=inn_eq s[k]
     cases hbk:begins s[k] with
     | true=>exact⟨rfl,begins_inn hbk⟩
     | false =>
      rw [hbk,Bool.false_or] at hin
      rw [Bool.not_false,Br_t]
      have yes:((48≤s[k].toNat∧s[k].toNat≤57)∨s[k].toNat=45∨s[k].toNat=46)→w2=w2∧inn s[k]=true:=fun hh=>⟨rfl,by rw [hin,decide_eq_true hh]⟩
      have no:¬((48≤s[k].toNat∧s[k].toNat≤57)∨s[k].toNat=45∨s[k].toNat=46)→R (.returned (.bool false)) w2:=fun hh=>hR (by rw [hin,decide_eq_false hh])
      repeat' (first | refine brd (fun _=>?_) (fun _=>?_) | refine brn (fun _=>?_) (fun _=>?_))
      all_goals first | exact yes (by omega) | exact no (by omega)
   ·obtain rfl:k=s.size:=by omega
    have e:isName s=true:=by
     simp only [isName,hs]
     rw [List.take_of_length_le (by rw [hs];omega),hs] at hall
     simp only [Bool.and_eq_true,decide_eq_true_eq,List.all_eq_true]
     exact⟨⟨by unfold maxName;omega,hb⟩,fun x hx=>hall x (by simp [hx])⟩
    rw [e] at h;exact h
  ·rw [bytes_eq,decide_eq_false hne,Br_f]
   refine brd (fun hgt=>?_) (fun hle=>?_)
   ·have e:isName s=false:=by
     simp only [isName,hs]
     rw [decide_eq_false (by unfold maxName;omega)];rfl
    rw [e] at h;exact h
   ·refine⟨by omega,s[0],by simp [ba_get h0],?_⟩
    refine letter_calls ⟨_,rfl,?_⟩
    rw [hc]
    cases hb:begins c with
    | false =>
     have e:isName s=false:=by simp only [isName,hs,hb];simp
     rw [e] at h;exact h
    | true=>exact⟨rfl,by omega,rfl⟩
theorem begins2_calls {c:UInt8} (h:R (.returned (.bool (begins c))) w):Calls Tryz.prog 181 #[.int .u8 (c.toNat:Int)] w R:=ok181 _ (letter_F h)
theorem in2_calls {c:UInt8} (h:R (.returned (.bool (inn c))) w):Calls Tryz.prog 182 #[.int .u8 (c.toNat:Int)] w R:=by
 refine ok182 _ ?_
 unfold F182
 refine begins2_calls ⟨_,rfl,?_⟩
 (
 rw [inn_eq] at h
 cases hb:begins c with
 | true=>rw [hb] at h;exact h
 | false =>
  rw [hb,Bool.false_or] at h
  rw [Br_f]
  have t:((48≤c.toNat∧c.toNat≤57)∨c.toNat=45∨c.toNat=46)→R (.returned (.bool true)) w:=fun k=>(by rw [decide_eq_true k] at h;exact h)
  have f:¬((48≤c.toNat∧c.toNat≤57)∨c.toNat=45)→R (.returned (.bool ((c.toNat:Int) == 46))) w:=fun k=>(by
   have e:((c.toNat:Int) == 46)=decide ((48≤c.toNat∧c.toNat≤57)∨c.toNat=45∨c.toNat=46):=(by
    rw [Bool.eq_iff_iff];simp;omega)
   rw [e];exact h)
  repeat' (first | refine brd (fun _=>?_) (fun _=>?_) | refine bre (fun _=>?_) (fun _=>?_))
  all_goals first | exact t (by omega) | exact f (by omega))
theorem name2_calls {s:ByteArray} (h:R (.returned (.bool (isName s))) w):Calls Tryz.prog 149 #[.string s] w R:=by
 refine ok149 _ ?_
 unfold F149
 have hz:s.data.toList.length=s.size:=by simp
 cases hs:s.data.toList with
 | nil =>
  have e:isName s=false:=by simp [isName,hs]
  rw [e] at h
  have hsz:s.size=0:=by rw [←hz,hs];rfl
  refine⟨fun _=>False,fun _ hf=>hf.elim,?_⟩
  refine brd (fun _=>h) (fun hge=>by omega)
 | cons c r =>
  rw [hs] at hz
  have h0:0 < s.size:=by rw [←hz];simp
  have hc:s[0]=c:=by
   have:=ba_list h0
   rw [hs] at this
   simpa using this.symm
  refine⟨fun w1=>w1=w∧s.size≤32∧begins c=true,?_,?_⟩
  ·rintro w1 ⟨rfl,h32,hb⟩
   unfold F149_j3
   refine⟨fun i w1'=>∃k:Nat,i=k∧k≤s.size∧w1'=w1∧∀x∈s.data.toList.take k,inn x=true,fun i _=>s.size-i.toNat,⟨0,rfl,by omega,rfl,by simp⟩,?_⟩
   rintro i w2 ⟨k,rfl,hk,rfl,hall⟩
   unfold F149_l4
   refine brd (fun hlt=>?_) (fun hge=>?_)
   ·have hlt':k < s.size:=by omega
    have next:inn s[k]=true→∀x∈s.data.toList.take (k+1),inn x=true:=fun hi x hx=>by
     rw [List.take_add_one,ba_list hlt'] at hx
     rcases List.mem_append.1 hx with hx | hx
     ·exact hall x hx
     ·simp at hx;subst hx;exact hi
    refine⟨by omega,s[k],by simp [ba_get hlt'],?_⟩
    refine in2_calls ⟨_,rfl,?_⟩
    cases hin:inn s[k] with
    | true=>
     rw [Bool.not_true,Br_f]
     exact⟨inR_i64 (by omega) (by omega),⟨k+1,by simp,by omega,rfl,next hin⟩,by dsimp only;omega⟩
    | false =>
     rw [Bool.not_false,Br_t]
     have e:isName s=false:=by
      simp only [isName,hs]
      rw [Bool.and_eq_false_iff]
      have hk0:k≠0:=by rintro rfl;rw [hc,begins_inn hb] at hin;cases hin
      right
      rw [List.all_eq_false]
      refine⟨s[k],?_,by simp [hin]⟩
      have h1:=ba_list hlt'
      rw [hs] at h1
      obtain⟨k',rfl⟩:∃k',k=k'+1:=⟨k-1,by omega⟩
      rw [List.getElem?_cons_succ] at h1
      exact List.mem_of_getElem? h1
     rw [e] at h;exact h
   ·obtain rfl:k=s.size:=by omega
    have e:isName s=true:=by
     simp only [isName,hs]
     rw [List.take_of_length_le (by rw [hs];omega),hs] at hall
     simp only [Bool.and_eq_true,decide_eq_true_eq,List.all_eq_true]
     exact⟨⟨by unfold maxName;omega,hb⟩,fun x hx=>hall x (by simp [hx])⟩
    rw [e] at h;exact h
  ·refine brd (fun hlt=>by omega) (fun _=>?_)
   refine brd (fun hgt=>?_) (fun hle=>?_)
   ·have e:isName s=false:=by
     simp only [isName,hs]
     rw [decide_eq_false (by unfold maxName;omega)];rfl
    rw [e] at h;exact h
   ·refine⟨by omega,s[0],by simp [ba_get h0],?_⟩
    refine begins2_calls ⟨_,rfl,?_⟩
    rw [hc]
    cases hb:begins c with
    | false =>
     have e:isName s=false:=by simp only [isName,hs,hb];simp
     rw [e] at h;exact h
    | true=>exact⟨rfl,by omega,rfl⟩
end
end Go.Proofs.YtccplipiahdhiaaGreatDoor
namespace Go.Proofs.YtccplipiahdhiaaGreatDoor
open Go.Shelf Go.RowKit
def decRen:Go.Shelf.Ren:=⟨fun | 197=>183 | 260=>197 | n=>n,fun | 0=>0 | 3=>3 | 4=>4 | 5=>5 | 9=>9 | 21=>21 | 46=>239 | 105=>276 | 119=>291 | 138=>293 | 139=>294 | n=>n,fun | 3=>1 | 4=>2 | n=>n⟩
set_option maxRecDepth 100000 in
theorem decLays:Lays.n197 Tryz.prog decRen where
 mixed:=by kernel_rfl
 f197:=Tryz.func183.trans (congrArg some (by kernel_rfl))
 f260:=Tryz.func197.trans (congrArg some (by kernel_rfl))
 t0:=Tryz.underlying0
 a0:=Tryz.isAgg0
 z0:=Tryz.sizeOf0
 v0:=Tryz.zeroValue0
 t3:=Tryz.underlying3
 a3:=Tryz.isAgg3
 z3:=Tryz.sizeOf3
 v3:=Tryz.zeroValue3
 t4:=Tryz.underlying4
 a4:=Tryz.isAgg4
 z4:=Tryz.sizeOf4
 v4:=Tryz.zeroValue4
 t5:=Tryz.underlying5
 a5:=Tryz.isAgg5
 z5:=Tryz.sizeOf5
 v5:=Tryz.zeroValue5
 t9:=Tryz.underlying9
 a9:=Tryz.isAgg9
 z9:=Tryz.sizeOf9
 v9:=Tryz.zeroValue9
 t21:=Tryz.underlying21
 a21:=Tryz.isAgg21
 z21:=Tryz.sizeOf21
 v21:=Tryz.zeroValue21
 t46:=Tryz.underlying239
 a46:=Tryz.isAgg239
 z46:=Tryz.sizeOf239
 v46:=Tryz.zeroValue239
 t105:=Tryz.underlying276
 a105:=Tryz.isAgg276
 z105:=Tryz.sizeOf276
 v105:=Tryz.zeroValue276
 t119:=Tryz.underlying291
 a119:=Tryz.isAgg291
 z119:=Tryz.sizeOf291
 t138:=Tryz.underlying293
 a138:=Tryz.isAgg293
 z138:=Tryz.sizeOf293
 v138:=Tryz.zeroValue293
 t139:=Tryz.underlying294
 a139:=Tryz.isAgg294
 z139:=Tryz.sizeOf294
 v139:=Tryz.zeroValue294
 g3:=by kernel_rfl
 g4:=by kernel_rfl
def Tabs (w:World):Prop:=Lib.Utf8Tabs 1 2 w
theorem decode_calls (s:ByteArray) (w:World) (hT:Tabs w) :
  Calls Tryz.prog 183 #[.string s] w fun e w'=>e=.returned (.tuple #[.int .i32 (Lib.decodeGo s).1,.int .i64 (Lib.decodeGo s).2])∧Below w.heap.size w w' :=
 Any.utf8_DecodeRuneInString decLays s w hT
end Go.Proofs.YtccplipiahdhiaaGreatDoor
namespace Go.Proofs.YtccplipiahdhiaaGreatDoor
open Go.RowKit
def canR (r:Nat):Bool:=decide (r=9∨r=10∨r=13∨(32≤r∧r≤55295)∨(57344≤r∧r≤65533)∨(65536≤r∧r≤1114111))
def inW (c:Nat):Bool:=decide ((97≤c∧c≤122)∨(65≤c∧c≤90)∨(48≤c∧c≤57)∨128≤c)
def lowW (c:Nat):Nat:=if 65≤c∧c≤90 then c+32 else c
def sizeR (c:Nat):Nat × Nat:=if c < 128 then (1,c) else if 192≤c∧c < 224 then (2,c-192) else if 224≤c∧c < 240 then (3,c-224) else if 240≤c∧c < 248 then (4,c-240) else (0,0)
theorem retB {x:Value}{b c:Bool} (h:b=c) (hx:x=.bool b):Ending.returned x=Ending.returned (.bool c):=by rw [hx,h]
theorem retII {x y:Value}{k l:IntKind}{a b c d:Int} (h:a=b) (h2:c=d) (hx:x=.int k a) (hy:y=.int l c):Ending.returned (.tuple #[x,y])=Ending.returned (.tuple #[.int k b,.int l d]):=by rw [hx,hy,h,h2]
set_option maxHeartbeats 4000000
set_option maxRecDepth 100000
theorem can_calls (c:Nat) (w:World):Calls Tryz.prog 184 #[.int .i64 c] w fun e w'=>e=.returned (.bool (canR c))∧w'=w:=by
 go_enter Tryz.func184,Tryz.ntmps184
 go_wp2
 all_goals go_ret
 all_goals refine⟨retB (?_:_=canR c) rfl,rfl⟩
 all_goals rw [Bool.eq_iff_iff]
 all_goals simp [canR]
 all_goals (first | omega | (simp only [beq_iff_eq,beq_eq_false_iff_ne,ne_eq] at *;omega))
theorem char_calls (c:Nat) (w:World):Calls Tryz.prog 190 #[.int .i64 c] w fun e w'=>e=.returned (.bool (canR c))∧w'=w:=by
 go_enter Tryz.func190,Tryz.ntmps190
 go_wp2
 all_goals (go_ret;refine⟨retB (?_:_=canR c) rfl,rfl⟩;rw [Bool.eq_iff_iff];simp [canR];omega)
theorem size_calls (c:Nat) (hc:c < 256) (w:World):Calls Tryz.prog 189 #[.int .u8 c] w fun e w'=>e=.returned (.tuple #[.int .i64 (sizeR c).1,.int .i64 (sizeR c).2])∧w'=w:=by
 go_enter Tryz.func189,Tryz.ntmps189
 go_wp2
 all_goals go_ret2
 all_goals refine⟨retII (?_:_=(((sizeR c).1:Nat):Int)) (?_:_=(((sizeR c).2:Nat):Int)) rfl rfl,rfl⟩
 all_goals unfold sizeR
 all_goals repeat' split
 all_goals (first | omega | (exfalso;omega))
def lenR (r:Nat):Nat:=if r < 128 then 1 else if r < 2048 then 2 else if r < 65536 then 3 else 4
def strN (ns:List Int):ByteArray:=ns.foldl (fun r n=>r.push (UInt8.ofNat n.toNat)) ByteArray.empty
theorem strN_size (ns:List Int):(strN ns).size=ns.length:=by
 have:∀(ns:List Int) (s:ByteArray),(ns.foldl (fun r n=>r.push (UInt8.ofNat n.toNat)) s).size=s.size+ns.length:=by
  intro ns
  induction ns with
  | nil=>intro s;simp
  | cons n r ih=>intro s;rw [List.foldl_cons,ih,ByteArray.size_push,List.length_cons];omega
 unfold strN;rw [this];simp
theorem conv_lit (w:World) (ns:List Int) (n:Nat) (hn:n=ns.length) (cs:Array Value) (hcs:cs=(ns.map (Value.int .u8)).toArray) :
  (convert 175 9 (.slice (some ⟨w.heap.size,0,none⟩) n n)).run Tryz.prog (w.alloc (.cells cs 5))=.ok (.string (strN ns)) (w.alloc (.cells cs 5)):=by
 subst hn hcs
 rw [run_convert_bytes_string _ _ _ _ _ _ _ Tryz.underlying175 Tryz.underlying5 Tryz.underlying9]
 have hl:=run_loadCells_list (P:=Tryz.prog) (w.alloc (.cells (ns.map (Value.int .u8)).toArray 5)) ⟨w.heap.size,0,none⟩ (ns.map (Value.int .u8)) (fun j v hj=>by
  have:(Addr.add ⟨w.heap.size,0,none⟩ j)=⟨w.heap.size,j,none⟩:=by rw [Addr.add_lit];simp
  rw [this,blk_cell (blk_new _ _)]
  simpa using hj)
 simp only [List.length_map] at hl
 exact run_bytesToString _ _ _ _ _ hl
set_option maxHeartbeats 4000000
set_option maxRecDepth 100000
theorem bytes1 (r:Nat) (hr:r < 128) (w:World):Calls Tryz.prog 191 #[.int .i64 r] w fun e w'=>(∃s:ByteArray,e=.returned (.string s)∧s.size=1)∧Below w.heap.size w w':=by
 have h0:(r:Int) < 128:=by omega
 have k1:=fun x=>conv_lit w [x] 1 rfl #[.int .u8 x] rfl
 go_enter Tryz.func191,Tryz.ntmps191
 go_wp2
 all_goals go_ret
 all_goals exact⟨⟨_,rfl,strN_size _⟩,bl1 (Below.refl _ _) _⟩
theorem bytes2 (r:Nat) (hr:128≤r∧r < 2048) (w:World):Calls Tryz.prog 191 #[.int .i64 r] w fun e w'=>(∃s:ByteArray,e=.returned (.string s)∧s.size=2)∧Below w.heap.size w w':=by
 have h0:¬(r:Int) < 128:=by omega
 have h1:(r:Int) < 2048:=by omega
 have k1:=fun x y=>conv_lit w [x,y] 2 rfl #[.int .u8 x,.int .u8 y] rfl
 go_enter Tryz.func191,Tryz.ntmps191
 go_wp2
 all_goals go_ret
 all_goals exact⟨⟨_,rfl,strN_size _⟩,bl1 (Below.refl _ _) _⟩
theorem bytes3 (r:Nat) (hr:2048≤r∧r < 65536) (w:World):Calls Tryz.prog 191 #[.int .i64 r] w fun e w'=>(∃s:ByteArray,e=.returned (.string s)∧s.size=3)∧Below w.heap.size w w':=by
 have h0:¬(r:Int) < 128:=by omega
 have h1:¬(r:Int) < 2048:=by omega
 have h2:(r:Int) < 65536:=by omega
 have k1:=fun x y z=>conv_lit w [x,y,z] 3 rfl #[.int .u8 x,.int .u8 y,.int .u8 z] rfl
 go_enter Tryz.func191,Tryz.ntmps191
 go_wp2
 all_goals go_ret
 all_goals exact⟨⟨_,rfl,strN_size _⟩,bl1 (Below.refl _ _) _⟩
theorem bytes4 (r:Nat) (hr:65536≤r∧r < 2097152) (w:World):Calls Tryz.prog 191 #[.int .i64 r] w fun e w'=>(∃s:ByteArray,e=.returned (.string s)∧s.size=4)∧Below w.heap.size w w':=by
 have h0:¬(r:Int) < 128:=by omega
 have h1:¬(r:Int) < 2048:=by omega
 have h2:¬(r:Int) < 65536:=by omega
 have k1:=fun x y z t=>conv_lit w [x,y,z,t] 4 rfl #[.int .u8 x,.int .u8 y,.int .u8 z,.int .u8 t] rfl
 go_enter Tryz.func191,Tryz.ntmps191
 go_wp2
 all_goals go_ret
 all_goals exact⟨⟨_,rfl,strN_size _⟩,bl1 (Below.refl _ _) _⟩
theorem bytes_calls (r:Nat) (hr:r < 2097152) (w:World):Calls Tryz.prog 191 #[.int .i64 r] w fun e w'=>(∃s:ByteArray,e=.returned (.string s)∧s.size=lenR r)∧Below w.heap.size w w':=by
 unfold lenR
 split
 ·exact bytes1 r (by omega) w
 ·split
  ·exact bytes2 r (by omega) w
  ·split
   ·exact bytes3 r (by omega) w
   ·exact bytes4 r (by omega) w
def contR (s:ByteArray) (i:Nat):Nat→Nat→Nat→Option Nat
 | 0,_,r=>some r
 | k+1,j,r=>if (s.get! (i+j)).toNat < 128∨192≤(s.get! (i+j)).toNat then none else contR s i k (j+1) (64*r+(s.get! (i+j)).toNat-128)
def atR (s:ByteArray) (i:Nat):Nat × Nat :=
 if (sizeR (s.get! i).toNat).1=0∨s.size < i+(sizeR (s.get! i).toNat).1 then (0,0)
 else match contR s i ((sizeR (s.get! i).toNat).1-1) 1 (sizeR (s.get! i).toNat).2 with
  | none=>(0,0)
  | some r=>if canR r=true∧lenR r=(sizeR (s.get! i).toNat).1 then (r,(sizeR (s.get! i).toNat).1) else (0,0)
def bndR (j:Nat):Nat:=if j≤1 then 128 else if j=2 then 8192 else if j=3 then 524288 else 33554432
theorem bndR_le (j : Nat) : bndR j ≤ 33554432 := by unfold bndR; repeat' split
                                                    all_goals omega
theorem bndR_step {j r c:Nat} (h:r < bndR j) (h1:1≤j) (h2:j < 4) (hc:c < 192):64*r+c-128 < bndR (j+1):=by
 unfold bndR at *
 have:j=1∨j=2∨j=3:=by omega
 rcases this with rfl | rfl | rfl <;> simp at*<;> omega
theorem sizeR_lt (c:Nat):(sizeR c).1≤4∧(sizeR c).2 < 128:=by
 unfold sizeR
 repeat' split
 all_goals simp only
 all_goals omega
theorem atR_eq (s:ByteArray) (i n r0:Nat) (hn:(sizeR (s.get! i).toNat).1=n) (hr:(sizeR (s.get! i).toNat).2=r0):atR s i=if n=0∨s.size < i+n then (0,0)
 else match contR s i (n-1) 1 r0 with
  | none=>(0,0)
  | some r=>if canR r=true∧lenR r=n then (r,n) else (0,0):=by
 unfold atR
 rw [hn,hr]
 all_goals rfl
theorem ret2n {a b:Nat}{x:Nat × Nat} (h:x=(a,b)):Ending.returned (.tuple #[.int .i64 (a:Int),.int .i64 (b:Int)])=Ending.returned (.tuple #[.int .i64 (x.1:Int),.int .i64 (x.2:Int)]):=by rw [h]
set_option maxHeartbeats 4000000
set_option maxRecDepth 100000
theorem at_calls (s:ByteArray) (i:Nat) (hi:i < s.size) (hs:s.size≤140737488355328) (w:World):Calls Tryz.prog 164 #[.string s,.int .i64 i] w fun e w'=>e=.returned (.tuple #[.int .i64 (atR s i).1,.int .i64 (atR s i).2])∧Below w.heap.size w w':=by
 have hi0:(i:Int) < (s.size:Int):=by omega
 obtain⟨c,hc⟩:∃c,s.get! i=c:=⟨_,rfl⟩
 have hs0:s[i]'hi=c:=by rw [←hc];exact (Utf8W.get!_of_lt s i hi).symm
 have hcz:c.toNat < 256:=c.toNat_lt
 obtain⟨n,hn⟩:∃n,(sizeR c.toNat).1=n:=⟨_,rfl⟩
 obtain⟨r0,hr⟩:∃r0,(sizeR c.toNat).2=r0:=⟨_,rfl⟩
 have hl:=sizeR_lt c.toNat
 rw [hn,hr] at hl
 obtain⟨hn4,hr128⟩:=hl
 have HA:=Lib.hid (atR_eq s i n r0 (by rw [hc];exact hn) (by rw [hc];exact hr))
 have cS:=size_calls c.toNat hcz
 simp only [hn,hr] at cS
 have hw:wrap64 ((i:Int)+n)=i+n:=IntWalk.wrap64_in _ (by omega)
 clear hc hn hr
 by_cases hn0:n=0∨s.size < i+n
 ·have hA:atR s i=(0,0):=by rw [HA.out,if_pos hn0]
  have HA:=Lib.hid hA
  clear hA
  go_enter Tryz.func164,Tryz.ntmps164
  by_cases hn1:n=0
  ·subst hn1
   clear hw hn0
   go_wp2_with (go_at_call 189;(with_reducible refine (cS _).mono ?_);rintro e w1 ⟨rfl,rfl⟩)
   all_goals go_ret2
   all_goals exact⟨ret2n HA.out,Below.refl _ _⟩
  ·have hn2:¬(n:Int)=0:=by omega
   have hn3:(s.size:Int) < i+n:=by omega
   clear hn0
   go_wp2_with (go_at_call 189;(with_reducible refine (cS _).mono ?_);rintro e w1 ⟨rfl,rfl⟩)
   all_goals go_ret2
   all_goals exact⟨ret2n HA.out,Below.refl _ _⟩
 ·have hA:atR s i=(match contR s i (n-1) 1 r0 with | none=>(0,0) | some r=>if canR r=true∧lenR r=n then (r,n) else (0,0)):=by rw [HA.out,if_neg hn0]
  have HA:=Lib.hid hA
  clear hA
  have hn1:¬(n:Int)=0:=by omega
  have hn7:((n:Int) == 0)=false:=by simpa using hn1
  have hn8:decide ((s.size:Int) < i+n)=false:=by simp;omega
  have hn5:i+n≤s.size:=by omega
  have hn6:1≤n:=by omega
  clear hn0
  go_enter Tryz.func164,Tryz.ntmps164
  go_wp2_with (go_at_call 189;(with_reducible refine (cS _).mono ?_);rintro e w1 ⟨rfl,rfl⟩)
  go_loopw [7,8] (fun v z wr=>∃(j r:Nat),1≤j∧j≤n∧v=.int .i64 r∧z=.int .i64 j∧r < bndR j∧wr=w1∧Hid (contR s i (n-1) 1 r0=contR s i (n-j) j r)) (fun v z wr=>n-(intOf z).toNat)
  case atStart=>exact⟨1,r0,by omega,hn6,rfl,rfl,by simpa [bndR] using hr128,rfl,Lib.hid rfl⟩
  case round =>
   obtain⟨j,r,hj1,hj2,rfl,rfl,hb,rfl,HC⟩:=hrel
   by_cases hlt:j < n
   ·have hq:(j:Int) < n:=by omega
    obtain⟨d,hd⟩:∃d,s.get! (i+j)=d:=⟨_,rfl⟩
    have hk1:i+j < s.size:=by omega
    have hs1:s[i+j]'hk1=d:=by rw [←hd];exact (Utf8W.get!_of_lt s (i+j) (by omega)).symm
    have hw1:wrap64 ((i:Int)+j)=((i+j:Nat):Int):=by rw [IntWalk.wrap64_in _ (by omega)];omega
    have hq1:((i+j:Nat):Int) < (s.size:Int):=by omega
    have hrb:(r:Int) < 33554432:=by have hbl:=bndR_le j;omega
    have HB:=Lib.hid hb
    have HL:=Lib.hid hlt
    clear hb hj2 hlt hn1
    by_cases hbad:d.toNat < 128∨192≤d.toNat
    ·have hA0:atR s i=(0,0):=by
      rw [HA.out,HC.out,show n-j=(n-j-1)+1 by have:=HL.out;omega,contR,hd,if_pos hbad]
     have HA:=Lib.hid hA0
     clear hA0 hrb HC hj1 hd
     by_cases hb1:d.toNat < 128
     ·have hb2:(d.toNat:Int) < 128:=by omega
      clear hbad
      go_wp2
      all_goals go_ret2
      all_goals exact⟨ret2n HA.out,Below.refl _ _⟩
     ·have hb2:(192:Int)≤d.toNat:=by omega
      have hb3:¬(d.toNat:Int) < 128:=by omega
      clear hbad
      go_wp2
      all_goals go_ret2
      all_goals exact⟨ret2n HA.out,Below.refl _ _⟩
    ·have hC1:contR s i (n-1) 1 r0=contR s i (n-(j+1)) (j+1) (64*r+d.toNat-128):=by
      rw [HC.out,show n-j=(n-(j+1))+1 by have:=HL.out;omega,contR,hd,if_neg hbad]
     have HC:=Lib.hid hC1
     clear hC1
     have hst0:=bndR_step (c:=d.toNat) HB.out hj1 (by have:=HL.out;omega) (by omega)
     have hst:=Lib.hid hst0
     have hj3:j+1≤n:=by have:=HL.out;omega
     have hb3:¬(d.toNat:Int) < 128:=by omega
     have hb4:decide ((192:Int)≤d.toNat)=false:=by simp;omega
     have hd1:128≤d.toNat:=by omega
     have hd2:d.toNat < 192:=by omega
     have HJ:=Lib.hid (And.intro hj3 (And.intro hd1 (And.intro hd2 (And.intro hj1 hrb))))
     clear hbad hst0 hd HB hj3 hd1 hd2 hrb hj1
     go_wp2
     obtain⟨hj3,hd1,hd2,hj1,hrb⟩:=HJ.out
     refine⟨⟨j+1,64*r+d.toNat-128,by omega,hj3,?_,?_,hst.out,by trivial,HC⟩,?_⟩
     ·rw [IntWalk.wrap64_in (64*(r:Int)) (by omega),IntWalk.wrap64_in (d.toNat:Int) (by omega),IntWalk.wrap64_in (64*(r:Int)+d.toNat) (by omega),IntWalk.wrap64_in _ (by omega)];congr 1;omega
     ·congr 1
     ·simp only [intOf];omega
   ·have hjn:j=n:=by omega
    subst hjn
    have hq:¬(j:Int) < j:=by omega
    have hA1:atR s i=if canR r=true∧lenR r=j then (r,j) else (0,0):=by
     rw [HA.out,HC.out,Nat.sub_self];rfl
    have HA:=Lib.hid hA1
    clear hA1 HC
    by_cases hcan:canR r=true
    ·have hr4:r < 2097152:=by
      simp [canR] at hcan;omega
     go_wp2_with (first
      | (go_at_call 190;(with_reducible refine (char_calls r _).mono ?_);rintro e w2 ⟨rfl,rfl⟩)
      | (go_at_call 191;(with_reducible refine (bytes_calls r hr4 _).mono ?_);rintro e w2 ⟨⟨sb,rfl,hsb⟩,hbb⟩))
     ·go_ret2
      exact⟨ret2n (by rw [HA.out,if_neg (by rintro ⟨-,h⟩;rename _=true=>hx;rw [h] at hx;simp at hx)]),hbb⟩
     ·go_ret2
      have h2:lenR r=j:=by rename (_ != _)=false=>hx;exact Int.ofNat.inj (by simpa using hx)
      exact⟨ret2n (by rw [HA.out,if_pos ⟨hcan,h2⟩]),hbb⟩
    ·have hc2:canR r=false:=by simpa using hcan
     go_wp2_with (first
      | (go_at_call 190;(with_reducible refine (char_calls r _).mono ?_);rintro e w2 ⟨rfl,rfl⟩)
      | (go_at_call 191;fail))
     go_ret2
     exact⟨ret2n (by rw [HA.out,if_neg (by simp [hc2])]),Below.refl _ _⟩
def firstR (x:Nat × Nat):Nat × Nat:=if (x.1=65533∧x.2=1)∨canR x.1=false then (0,0) else x
set_option maxHeartbeats 4000000
set_option maxRecDepth 100000
theorem canR_iff (r:Nat):canR r=true↔(r=9∨r=10∨r=13∨(32≤r∧r≤55295)∨(57344≤r∧r≤65533)∨(65536≤r∧r≤1114111)):=by simp [canR]
theorem fin_eq (r n:Nat) (x:Nat × Nat) (h1:lenR r=n→canR r=true→x=(r,n)∧¬(r=65533∧n=1)) (h2:¬(lenR r=n∧canR r=true)→(x.1=65533∧x.2=1)∨canR x.1=false) :
  firstR x=if canR r=true∧lenR r=n then (r,n) else (0,0):=by
 unfold firstR
 by_cases h:canR r=true∧lenR r=n
 ·obtain⟨rfl,h3⟩:=h1 h.2 h.1
  rw [if_pos h,if_neg]
  rintro (h4 | h4)
  ·exact h3 h4
  ·simp only at h4;rw [h.1] at h4;cases h4
 ·rw [if_neg h,if_pos (h2 fun k=>h ⟨k.2,k.1⟩)]
theorem one_eq (n b0 b1 b2 b3:Nat) (h:b0 < 128):firstR (Lib.decodeN n b0 b1 b2 b3)=if canR b0=true∧lenR b0=1 then (b0,1) else (0,0):=by
 have hd:Lib.decodeN n b0 b1 b2 b3=(b0,1):=by unfold Lib.decodeN;rw [if_pos h]
 have hl:lenR b0=1:=by unfold lenR;rw [if_pos h]
 rw [hd]
 refine fin_eq _ _ _ (fun _ _=>⟨rfl,by omega⟩) (fun hk=>?_)
 right
 simpa [hl] using hk
theorem two_eq (n b0 b1 b2 b3 : Nat) (h : 192 ≤ b0 ∧ b0 < 224) (h1 : 128 ≤ b1 ∧ b1 < 192) (hn : 2 ≤ n) : firstR (Lib.decodeN n b0 b1 b2 b3) = if canR (64 * (b0 - 192) + b1 - 128) = true ∧ lenR (64 * (b0 - 192) + b1 - 128) = 2 then (64 * (b0 - 192) + b1 - 128, 2) else (0, 0) := by
  have he : b0 % 32 * 64 + b1 % 64 = 64 * (b0 - 192) + b1 - 128 := by omega
  have hd : Lib.decodeN n b0 b1 b2 b3 = if 64 * (b0 - 192) + b1 - 128 ≥ 128 then (64 * (b0 - 192) + b1 - 128, 2) else (65533, 1) := by
    unfold Lib.decodeN; rw [if_neg (by omega), if_pos (by omega), he]
  rw [hd]
  obtain ⟨r, hr⟩ : ∃ r, 64 * (b0 - 192) + b1 - 128 = r := ⟨_, rfl⟩
  have hlt : r < 2048 := by omega
  rw [hr]
  have hl : lenR r = 2 ↔ 128 ≤ r := by unfold lenR; repeat' split
                                       all_goals omega
  refine fin_eq _ _ _ (fun h2 _ => ?_) (fun hk => ?_)
  · have h3 := hl.1 h2
    exact ⟨by rw [if_pos h3], by omega⟩
  · by_cases h3 : r ≥ 128
    · rw [if_pos h3]; right
      have := hl.2 h3
      simpa [this] using hk
    · rw [if_neg h3]; left; exact ⟨rfl, rfl⟩
theorem three_eq (n b0 b1 b2 b3 : Nat) (h : 224 ≤ b0 ∧ b0 < 240) (h1 : 128 ≤ b1 ∧ b1 < 192) (h2 : 128 ≤ b2 ∧ b2 < 192) (hn : 3 ≤ n) : firstR (Lib.decodeN n b0 b1 b2 b3) = if canR (64 * (64 * (b0 - 224) + b1 - 128) + b2 - 128) = true ∧ lenR (64 * (64 * (b0 - 224) + b1 - 128) + b2 - 128) = 3 then (64 * (64 * (b0 - 224) + b1 - 128) + b2 - 128, 3) else (0, 0) := by
  obtain ⟨r, hr⟩ : ∃ r, 64 * (64 * (b0 - 224) + b1 - 128) + b2 - 128 = r := ⟨_, rfl⟩
  have he : b0 % 16 * 4096 + b1 % 64 * 64 + b2 % 64 = r := by omega
  have hlt : r < 65536 := by omega
  have hd : Lib.decodeN n b0 b1 b2 b3 = if r ≥ 2048 ∧ (r < 55296 ∨ (57344 ≤ r ∧ r ≤ 1114111)) then (r, 3) else (65533, 1) := by
    unfold Lib.decodeN; rw [if_neg (by omega), if_neg (by omega), if_pos (by omega), he]
  rw [hd, hr]
  have hl : lenR r = 3 ↔ 2048 ≤ r := by unfold lenR; repeat' split
                                        all_goals omega
  refine fin_eq _ _ _ (fun h3 hc => ?_) (fun hk => ?_)
  · have h4 := hl.1 h3
    have h5 := (canR_iff r).1 hc
    exact ⟨by rw [if_pos (by omega)], by omega⟩
  · by_cases h3 : r ≥ 2048 ∧ (r < 55296 ∨ (57344 ≤ r ∧ r ≤ 1114111))
    · rw [if_pos h3]; right
      have := hl.2 h3.1
      simpa [this] using hk
    · rw [if_neg h3]; left; exact ⟨rfl, rfl⟩
theorem four_eq (n b0 b1 b2 b3 : Nat) (h : 240 ≤ b0 ∧ b0 < 248) (h1 : 128 ≤ b1 ∧ b1 < 192) (h2 : 128 ≤ b2 ∧ b2 < 192) (h3 : 128 ≤ b3 ∧ b3 < 192) (hn : 4 ≤ n) : firstR (Lib.decodeN n b0 b1 b2 b3) = if canR (64 * (64 * (64 * (b0 - 240) + b1 - 128) + b2 - 128) + b3 - 128) = true ∧ lenR (64 * (64 * (64 * (b0 - 240) + b1 - 128) + b2 - 128) + b3 - 128) = 4 then (64 * (64 * (64 * (b0 - 240) + b1 - 128) + b2 - 128) + b3 - 128, 4) else (0, 0) := by
  obtain ⟨r, hr⟩ : ∃ r, 64 * (64 * (64 * (b0 - 240) + b1 - 128) + b2 - 128) + b3 - 128 = r := ⟨_, rfl⟩
  have he : b0 % 8 * 262144 + b1 % 64 * 4096 + b2 % 64 * 64 + b3 % 64 = r := by omega
  have hd : Lib.decodeN n b0 b1 b2 b3 = if r ≥ 65536 ∧ (r < 55296 ∨ (57344 ≤ r ∧ r ≤ 1114111)) then (r, 4) else (65533, 1) := by
    unfold Lib.decodeN; rw [if_neg (by omega), if_neg (by omega), if_neg (by omega), if_pos (by omega), he]
  rw [hd, hr]
  have hl : lenR r = 4 ↔ 65536 ≤ r := by unfold lenR; repeat' split
                                         all_goals omega
  refine fin_eq _ _ _ (fun h3 hc => ?_) (fun hk => ?_)
  · have h4 := hl.1 h3
    have h5 := (canR_iff r).1 hc
    exact ⟨by rw [if_pos (by omega)], by omega⟩
  · by_cases h3 : r ≥ 65536 ∧ (r < 55296 ∨ (57344 ≤ r ∧ r ≤ 1114111))
    · rw [if_pos h3]; right
      have := hl.2 h3.1
      simpa [this] using hk
    · rw [if_neg h3]; left; exact ⟨rfl, rfl⟩
theorem bad_first {n b0 b1 b2 b3:Nat} (h:Lib.decodeN n b0 b1 b2 b3=(65533,1)):firstR (Lib.decodeN n b0 b1 b2 b3)=(0,0):=by
 rw [h];unfold firstR;rw [if_pos (Or.inl ⟨rfl,rfl⟩)]
theorem dec_at (s:ByteArray) (i:Nat) (hi:i < s.size):firstR (Utf8.decode s i)=atR s i:=by
 rw [Lib.decode_at]
 obtain⟨b0,h0⟩:∃b,(s.get! i).toNat=b:=⟨_,rfl⟩
 obtain⟨b1,h1⟩:∃b,(s.get! (i+1)).toNat=b:=⟨_,rfl⟩
 obtain⟨b2,h2⟩:∃b,(s.get! (i+2)).toNat=b:=⟨_,rfl⟩
 obtain⟨b3,h3⟩:∃b,(s.get! (i+3)).toNat=b:=⟨_,rfl⟩
 have l0:b0 < 256:=by rw [←h0];exact (s.get! i).toNat_lt
 obtain⟨n,hn⟩:∃n,s.size-i=n:=⟨_,rfl⟩
 unfold atR
 rw [h0,h1,h2,h3,hn]
 by_cases c1:b0 < 128
 ·have hs:sizeR b0=(1,b0):=by unfold sizeR;rw [if_pos c1]
  rw [hs,one_eq _ _ _ _ _ c1]
  have hz:¬(1=0∨s.size < i+1):=by omega
  simp only [contR,Nat.sub_self,if_neg hz]
 ·by_cases c2:192≤b0∧b0 < 224
  ·have hs:sizeR b0=(2,b0-192):=by unfold sizeR;rw [if_neg c1,if_pos c2]
   rw [hs]
   simp only [contR,h1,show 2-1=0+1 from rfl]
   by_cases k:2≤n∧(128≤b1∧b1 < 192)
   ·rw [if_neg (by omega),if_neg (by omega),two_eq _ _ _ _ _ c2 k.2 k.1]
   ·rw [bad_first (by unfold Lib.decodeN;rw [if_neg (by omega),if_neg (by omega),if_neg (by omega),if_neg (by omega)])]
    by_cases k2:s.size < i+2
    ·rw [if_pos (Or.inr k2)]
    ·rw [if_neg (by omega),if_pos (by omega)]
  ·by_cases c3:224≤b0∧b0 < 240
   ·have hs:sizeR b0=(3,b0-224):=by unfold sizeR;rw [if_neg c1,if_neg c2,if_pos c3]
    rw [hs]
    simp only [contR,h1,h2,show 3-1=0+1+1 from rfl]
    by_cases k:3≤n∧(128≤b1∧b1 < 192)∧(128≤b2∧b2 < 192)
    ·rw [if_neg (by omega),if_neg (by omega),if_neg (by omega),three_eq _ _ _ _ _ c3 k.2.1 k.2.2 k.1]
    ·rw [bad_first (by unfold Lib.decodeN;rw [if_neg (by omega),if_neg (by omega),if_neg (by omega),if_neg (by omega)])]
     by_cases k2:s.size < i+3
     ·rw [if_pos (Or.inr k2)]
     ·rw [if_neg (by omega)]
      by_cases k3:b1 < 128∨192≤b1
      ·rw [if_pos k3]
      ·rw [if_neg k3,if_pos (by omega)]
   ·by_cases c4:240≤b0∧b0 < 248
    ·have hs:sizeR b0=(4,b0-240):=by unfold sizeR;rw [if_neg c1,if_neg c2,if_neg c3,if_pos c4]
     rw [hs]
     simp only [contR,h1,h2,h3,show 4-1=0+1+1+1 from rfl]
     by_cases k:4≤n∧(128≤b1∧b1 < 192)∧(128≤b2∧b2 < 192)∧(128≤b3∧b3 < 192)
     ·rw [if_neg (by omega),if_neg (by omega),if_neg (by omega),if_neg (by omega),four_eq _ _ _ _ _ c4 k.2.1 k.2.2.1 k.2.2.2 k.1]
     ·rw [bad_first (by unfold Lib.decodeN;rw [if_neg (by omega),if_neg (by omega),if_neg (by omega),if_neg (by omega)])]
      by_cases k2:s.size < i+4
      ·rw [if_pos (Or.inr k2)]
      ·rw [if_neg (by omega)]
       by_cases k3:b1 < 128∨192≤b1
       ·rw [if_pos k3]
       ·rw [if_neg k3]
        by_cases k4:b2 < 128∨192≤b2
        ·rw [if_pos k4]
        ·rw [if_neg k4,if_pos (by omega)]
    ·have hs:sizeR b0=(0,0):=by unfold sizeR;rw [if_neg c1,if_neg c2,if_neg c3,if_neg c4]
     rw [hs,if_pos (Or.inl rfl),bad_first (by unfold Lib.decodeN;rw [if_neg (by omega),if_neg (by omega),if_neg (by omega),if_neg (by omega)])]
def badF (s:ByteArray):Nat→Nat→Nat × Nat
 | 0,_=>(0,0)
 | f+1,i=>if s.size≤i then (0,0) else if (atR s i).2=0 then (i,7) else badF s f (i+(atR s i).2)
def textS (s:ByteArray):Nat × Nat:=if 16384 < s.size then (0,2) else badF s (s.size+1) 0
theorem atR_le (s:ByteArray) (i:Nat):(atR s i).2≤4:=by
 have:=(sizeR_lt (s.get! i).toNat).1
 unfold atR
 repeat' split
 all_goals simp only
 all_goals omega
set_option maxHeartbeats 4000000
set_option maxRecDepth 100000
theorem bad_calls (s:ByteArray) (hs:s.size≤16384) (w:World):Calls Tryz.prog 132 #[.string s] w fun e w'=>e=.returned (.tuple #[.int .i64 (badF s (s.size+1) 0).1,.int .i64 (badF s (s.size+1) 0).2])∧Below w.heap.size w w':=by
 go_enter Tryz.func132,Tryz.ntmps132
 go_wp2
 go_loopw [4] (fun v wr=>∃(i f:Nat),s.size < i+f∧v=.int .i64 i∧i≤s.size+4∧Below w.heap.size w wr∧Hid (badF s (s.size+1) 0=badF s f i)) (fun v wr=>s.size-(intOf v).toNat)
 case atStart=>exact⟨0,s.size+1,by omega,rfl,by omega,Below.refl _ _,Lib.hid rfl⟩
 case round =>
  obtain⟨i,f,hf,rfl,hi4,HB,HF⟩:=hrel
  by_cases hi:i < s.size
  ·have hi0:(i:Int) < s.size:=by omega
   obtain⟨f,rfl⟩:∃g,f=g+1:=⟨f-1,by omega⟩
   obtain⟨n,hn⟩:∃n,(atR s i).2=n:=⟨_,rfl⟩
   obtain⟨r,hr⟩:∃r,(atR s i).1=r:=⟨_,rfl⟩
   have hn4:=atR_le s i
   rw [hn] at hn4
   have hF:badF s (s.size+1) 0=if n=0 then (i,7) else badF s f (i+n):=by rw [HF.out,badF,if_neg (by omega),hn]
   have HF:=Lib.hid hF
   have cA:=at_calls s i hi (by omega)
   simp only [hn,hr] at cA
   have HI:=Lib.hid (And.intro hf (And.intro hi4 (And.intro hi hn4)))
   clear hF hn hr hf hi4 hi hn4
   obtain⟨wo,rfl⟩:∃wo:World,wo=wr:=⟨_,rfl⟩
   by_cases hn0:n=0
   ·subst hn0
    go_wp2_with (go_at_call 164;(with_reducible refine (cA _).mono ?_);rintro e w1 ⟨rfl,hb⟩;replace HB:=bt1 HB hb;clear hb)
    go_ret2
    have hF0:badF s (s.size+1) 0=(i,7):=by rw [HF.out];simp
    exact⟨by rw [hF0];rfl,HB⟩
   ·have hn1:¬(n:Int)=0:=by omega
    have hn2:((n:Int) == 0)=false:=by simpa using hn1
    go_wp2_with (go_at_call 164;(with_reducible refine (cA _).mono ?_);rintro e w1 ⟨rfl,hb⟩;replace HB:=bt1 HB hb;clear hb)
    obtain⟨hf,hi4,hi,hn4⟩:=HI.out
    refine⟨⟨i+n,f,by omega,?_,by omega,HB,Lib.hid (by rw [HF.out,if_neg hn0])⟩,?_⟩
    ·rw [IntWalk.wrap64_in _ (by omega)];congr 1
    ·rw [IntWalk.wrap64_in _ (by omega)];simp only [intOf];omega
  ·have hi0:¬(i:Int) < s.size:=by omega
   have hF:badF s (s.size+1) 0=(0,0):=by
    rw [HF.out];cases f with
    | zero=>rfl
    | succ f=>rw [badF,if_pos (by omega)]
   clear HF
   go_wp2
   go_ret2
   exact⟨rfl,HB⟩
theorem textR_calls (s:ByteArray) (w:World):Calls Tryz.prog 89 #[.string s] w fun e w'=>e=.returned (.tuple #[.int .i64 (textS s).1,.int .i64 (textS s).2])∧Below w.heap.size w w':=by
 go_enter Tryz.func89,Tryz.ntmps89
 by_cases h:16384 < s.size
 ·have h0:(16384:Int) < s.size:=by omega
  have hT:textS s=(0,2):=by unfold textS;rw [if_pos h]
  go_wp2_with (go_at_call 132;fail)
  go_ret2
  exact⟨by first | rfl | (rw [hT];rfl),Below.refl _ _⟩
 ·have h0:¬(16384:Int) < s.size:=by omega
  have hT:textS s=badF s (s.size+1) 0:=by unfold textS;rw [if_neg h]
  go_wp2_with (go_at_call 132;(with_reducible refine (bad_calls s (by omega) _).mono ?_);rintro e w1 ⟨rfl,hb⟩)
  go_ret2
  exact⟨by first | rfl | (rw [hT];rfl),hb⟩
theorem first_calls (s:ByteArray) (hs:0 < s.size) (w:World) (hT:Tabs w):Calls Tryz.prog 151 #[.string s] w fun e w'=>e=.returned (.tuple #[.int .i64 (atR s 0).1,.int .i64 (atR s 0).2,.int .i64 (if (atR s 0).2=0 then 7 else 0)])∧Below w.heap.size w w':=by
 have cD:=decode_calls s w hT
 have hA:=dec_at s 0 hs
 have hd:Lib.decodeGo s=Utf8.decode s 0:=by unfold Lib.decodeGo;rw [if_neg (by omega)]
 obtain⟨r,hr⟩:∃r,(Utf8.decode s 0).1=r:=⟨_,rfl⟩
 obtain⟨n,hn⟩:∃n,(Utf8.decode s 0).2=n:=⟨_,rfl⟩
 rw [hd,hr,hn] at cD
 have hrn:Utf8.decode s 0=(r,n):=by rw [←hr,←hn]
 rw [hrn] at hA
 have hn1:1≤n∧r < 2147483648:=by
  rw [←hr,←hn,Lib.decode_at]
  unfold Lib.decodeN
  repeat' split
  all_goals simp only
  all_goals omega
 have hn0:((n:Int) == 0)=false:=by simp;omega
 have hr32:IntKind.i64.wrap (r:Int)=r:=IntWalk.i64_in _ (by omega)
 obtain⟨hn1,hr1⟩:=hn1
 have hn2:¬(n:Int)=0:=by omega
 clear hd hr hn hrn
 by_cases hb:(r=65533∧n=1)
 ·obtain⟨rfl,rfl⟩:=hb
  have h2:atR s 0=(0,0):=by rw [←hA];unfold firstR;rw [if_pos (Or.inl ⟨rfl,rfl⟩)]
  rw [h2]
  clear hA h2
  go_enter Tryz.func151,Tryz.ntmps151
  go_wp2_with (first
   | (go_at_call 183;(with_reducible refine (cD).mono ?_);rintro e w1 ⟨rfl,hb⟩)
   | (go_at_call 184;(with_reducible refine (can_calls 65533 _).mono ?_);rintro e w2 ⟨rfl,rfl⟩))
  all_goals go_ret3
  all_goals exact⟨rfl,hb⟩
 ·by_cases hc:canR r=true
  ·have h2:atR s 0=(r,n):=by rw [←hA];unfold firstR;rw [if_neg (by simp [hc];omega)]
   rw [h2,if_neg (by simp only;omega)]
   clear hA h2
   by_cases hq:r=65533
   ·subst hq
    have hb1:((n:Int) == 1)=false:=by
     rw [Bool.eq_false_iff];intro h;simp at h;omega
    have hb2:¬(n:Int)=1:=by omega
    have cC:∀w,Calls Tryz.prog 184 #[.int .i64 65533] w fun e w'=>e=.returned (.bool true)∧w'=w:=fun w=>(can_calls 65533 w).mono fun e w' h=>by rw [hc] at h;exact h
    go_enter Tryz.func151,Tryz.ntmps151
    go_wp2_with (first
     | (go_at_call 183;(with_reducible refine (cD).mono ?_);rintro e w1 ⟨rfl,hb⟩)
     | (go_at_call 184;(with_reducible refine (cC _).mono ?_);rintro e w2 ⟨rfl,rfl⟩))
    all_goals go_ret3
    all_goals exact⟨rfl,hb⟩
   ·have hb1:((r:Int) == 65533)=false:=by
     rw [Bool.eq_false_iff];intro h;simp at h;omega
    have hb2:¬(r:Int)=65533:=by omega
    go_enter Tryz.func151,Tryz.ntmps151
    go_wp2_with (first
     | (go_at_call 183;(with_reducible refine (cD).mono ?_);rintro e w1 ⟨rfl,hb⟩)
     | (go_at_call 184;(with_reducible refine (can_calls r _).mono ?_);rintro e w2 ⟨rfl,rfl⟩))
    all_goals go_ret3
    all_goals exact⟨rfl,hb⟩
  ·have hc1:canR r=false:=by simpa using hc
   have h2:atR s 0=(0,0):=by rw [←hA];unfold firstR;rw [if_pos (Or.inr hc1)]
   rw [h2]
   clear hA h2
   have hb2:¬(r:Int)=65533:=by
    intro h
    have:r=65533:=by omega
    subst this
    exact hc (by decide)
   have hb1:((r:Int) == 65533)=false:=by
    rw [Bool.eq_false_iff];intro h;simp at h;exact hb2 h
   go_enter Tryz.func151,Tryz.ntmps151
   go_wp2_with (first
    | (go_at_call 183;(with_reducible refine (cD).mono ?_);rintro e w1 ⟨rfl,hb⟩)
    | (go_at_call 184;(with_reducible refine (can_calls r _).mono ?_);rintro e w2 ⟨rfl,rfl⟩))
   all_goals go_ret3
   all_goals exact⟨rfl,hb⟩
theorem decGo_extract (s:ByteArray) (pos:Nat) (h:pos < s.size):Lib.decodeGo (s.extract pos s.size)=Utf8.decode s pos:=by
 have hx:(s.extract pos s.size).data.toList=s.data.toList.drop pos:=by
  rw [Lib.extract_data,List.take_of_length_le (by rw [List.length_drop,←Lib.size_eq];omega)]
 have hsz:(s.extract pos s.size).size≠0:=by rw [Lib.size_eq,hx,List.length_drop,←Lib.size_eq];omega
 unfold Lib.decodeGo
 rw [if_neg hsz,←Lib.decodeL_drop s pos,←hx]
 rfl
theorem atR_extract (s:ByteArray) (i:Nat) (hi:i < s.size):atR (s.extract i s.size) 0=atR s i:=by
 have h:=decGo_extract s i hi
 have hz:0 < (s.extract i s.size).size:=by simp;omega
 rw [←dec_at _ 0 hz,←dec_at s i hi,←h]
 unfold Lib.decodeGo
 rw [if_neg (by omega)]
theorem Tabs.keep {w w1:World} (h:Tabs w) (hb:Below w.heap.size w w1):Tabs w1:=⟨fun c hc=>kcell hb (h.1 c hc),fun i hi=>⟨kcell hb (h.2 i hi).1,kcell hb (h.2 i hi).2⟩⟩
set_option maxHeartbeats 4000000
set_option maxRecDepth 100000
theorem text_calls (s:ByteArray) (w:World) (hT:Tabs w):Calls Tryz.prog 112 #[.string s] w fun e w'=>e=.returned (.tuple #[.int .i64 (textS s).1,.int .i64 (textS s).2])∧Below w.heap.size w w':=by
 by_cases h:16384 < s.size
 ·have h0:(16384:Int) < s.size:=by omega
  have hX:textS s=(0,2):=by unfold textS;rw [if_pos h]
  go_enter Tryz.func112,Tryz.ntmps112
  go_wp2_with (go_at_call 151;fail)
  go_ret2
  exact⟨by first | rfl | (rw [hX];rfl),Below.refl _ _⟩
 have hX:textS s=badF s (s.size+1) 0:=by unfold textS;rw [if_neg h]
 have h0:¬(16384:Int) < s.size:=by omega
 have HX:=Lib.hid hX
 have HT:=Lib.hid hT
 clear hX hT
 go_enter Tryz.func112,Tryz.ntmps112
 go_wp2
 go_loopw [4] (fun v wr=>∃(i f:Nat),s.size < i+f∧v=.int .i64 i∧i≤s.size+4∧Below w.heap.size w wr∧Hid (badF s (s.size+1) 0=badF s f i)) (fun v wr=>s.size-(intOf v).toNat)
 case atStart=>exact⟨0,s.size+1,by omega,rfl,by omega,Below.refl _ _,Lib.hid rfl⟩
 case round =>
  obtain⟨i,f,hf,rfl,hi4,HB,HF⟩:=hrel
  by_cases hi:i < s.size
  ·have hi0:(i:Int) < s.size:=by omega
   obtain⟨f,rfl⟩:∃g,f=g+1:=⟨f-1,by omega⟩
   obtain⟨n,hn⟩:∃n,(atR s i).2=n:=⟨_,rfl⟩
   obtain⟨r,hr⟩:∃r,(atR s i).1=r:=⟨_,rfl⟩
   have hn4:=atR_le s i
   rw [hn] at hn4
   have hF:textS s=if n=0 then (i,7) else badF s f (i+n):=by rw [HX.out,HF.out,badF,if_neg (by omega),hn]
   have HF2:Hid (n≠0→badF s (s.size+1) 0=badF s f (i+n)):=Lib.hid (fun h=>by rw [HF.out,badF,if_neg (by omega),hn,if_neg h])
   have HF:=Lib.hid hF
   have cA:=fun (w:World) (hT:Tabs w)=>first_calls (s.extract i s.size) (by simp;omega) w hT
   rw [atR_extract s i hi] at cA
   simp only [hn,hr] at cA
   have HI:=Lib.hid (And.intro hf (And.intro hi4 (And.intro hi hn4)))
   clear hF hn hr hf hi4 hi hn4
   obtain⟨wo,rfl⟩:∃wo:World,wo=wr:=⟨_,rfl⟩
   by_cases hn0:n=0
   ·subst hn0
    go_wp2_with (go_at_call 151;(with_reducible refine (cA _ (HT.out.keep HB)).mono ?_);rintro e w1 ⟨rfl,hb⟩;replace HB:=bt1 HB hb;clear hb)
    go_ret2
    have hF0:textS s=(i,7):=by rw [HF.out];simp
    exact⟨by rw [hF0];rfl,HB⟩
   ·have hn1:¬(n:Int)=0:=by omega
    have hn2:((n:Int) == 0)=false:=by simpa using hn1
    simp only [if_neg hn0] at cA
    go_wp2_with (go_at_call 151;(with_reducible refine (cA _ (HT.out.keep HB)).mono ?_);rintro e w1 ⟨rfl,hb⟩;replace HB:=bt1 HB hb;clear hb)
    obtain⟨hf,hi4,hi,hn4⟩:=HI.out
    refine⟨⟨i+n,f,by omega,?_,by omega,HB,Lib.hid (HF2.out hn0)⟩,?_⟩
    ·rw [IntWalk.wrap64_in _ (by omega)];congr 1
    ·rw [IntWalk.wrap64_in _ (by omega)];simp only [intOf];omega
  ·have hi0:¬(i:Int) < s.size:=by omega
   have hF:textS s=(0,0):=by
    rw [HX.out,HF.out];cases f with
    | zero=>rfl
    | succ f=>rw [badF,if_pos (by omega)]
   have HF:=Lib.hid hF
   clear hF
   go_wp2
   go_ret2
   exact⟨by rw [HF.out];rfl,HB⟩
end Go.Proofs.YtccplipiahdhiaaGreatDoor
set_option linter.unusedVariables false
set_option maxRecDepth 100000
namespace Go.Proofs.YtccplipiahdhiaaGreatDoor
open Go.Vc
def F56 (d:Option Addr) (h_:Int) (p:World) (R:Ending→World→Prop):Prop :=
 Br (h_ == (0:Int))
 (NonNil d fun p10 =>
 LdSl (p.cell? (p10.add 1)) fun j a h =>
 Calls Tryz.prog 96 #[(.slice j a h),(.slice none 0 0)] p (post R fun v w1 =>
 ∃(m:Option Addr) (e:Nat) (f:Nat),v=(.slice m e f) ∧
 R (.returned (.tuple #[(.slice m e f),(.int .i64 0)])) w1))
 (Calls Tryz.prog 65 #[(.pointer d),(.int .u64 h_)] p (post R fun v w1 =>
 ∃(n:Option Addr),v=(.pointer n) ∧
 Br (n).isNone
 (R (.returned (.tuple #[(.slice none 0 0),(.int .i64 8)])) w1)
 (Al w1 #[(.pointer n)] 152 fun g20 b =>
 Calls Tryz.prog 96 #[(.slice (some g20) 1 1),(.slice none 0 0)] b (post R fun v2 i =>
 ∃(k:Option Addr) (c:Nat) (g:Nat),v2=(.slice k c g) ∧
 R (.returned (.tuple #[(.slice k c g),(.int .i64 0)])) i))))
theorem ok56 (d:Option Addr) (h_:Int) {w:World}{R:Ending→World→Prop} (h:F56 d h_ w R):Calls Tryz.prog 56 #[(.pointer d),(.int .u64 h_)] w R :=
 vc_calls (pl:=⟨22,⟨[]⟩,[],[]⟩) Tryz.func56 (by kernel_rfl) (by kernel_rfl) (by kernel_rfl) (Eq.mp (by kernel_rfl) h)
def F64_j16 (L11:Int→World→Prop) (a:Int) (b:World) (R:Ending→World→Prop):Prop :=
 InR .i64 (a+(1:Int))∧L11 (a+(1:Int)) b
def F64_l11 (d:Option Addr) (c:Addr) (ga:Option Addr) (q:Nat) (L11:Int→World→Prop) (ya:Int) (ua:World) (R:Ending→World→Prop):Prop :=
 Br (decide (ya < ((q:Nat):Int)))
 (∃J16:World→Prop,(∀ (w1:World),J16 w1→F64_j16 L11 ya w1 R) ∧
 (IdxA ga q ya 1 fun cb =>
 LdP (ua.cell? cb) fun ia =>
 ∃S:World→Prop,S ua.drew∧∃(za:Option Addr),Held S c (.pointer za)∧NonNil za fun p64 =>
 ∃(ra:Option Addr) (u:Nat) (m:Nat),Held S p64 (.slice ra u m)∧IdxA ra u ya 1 fun ab =>
 ∃(ma:Option Addr),Held S ab (.pointer ma)∧NonNil ia fun p72 =>
 ∃(sa:Option Addr) (da:Nat) (t:Nat),Held S (p72.add 8) (.slice sa da t)∧CallV Tryz.prog (.func (.func 110) #[] #[(.pointer (some c))]) #[(.slice sa da t)] ua.drew R (fun v k =>
 ∃(va:Option Addr) (g:Nat) (ba:Nat),v=(.slice va g ba) ∧
 S k∧NonNil ma fun p76 =>
 St k (p76.add 8) (.slice va g ba) fun aa =>
 NonNil ia fun p79 =>
 LdP (aa.cell? (p79.add 7)) fun pa =>
 Br (!(pa).isNone)
 (∃S2:World→Prop,S2 aa.drew∧∃(ta:Option Addr),Held S2 c (.pointer ta)∧NonNil ta fun p84 =>
 ∃(qa:Option Addr) (j:Nat) (i:Nat),Held S2 p84 (.slice qa j i)∧IdxA qa j ya 1 fun bb =>
 ∃(ja:Option Addr),Held S2 bb (.pointer ja)∧∃(ka:Option Addr),Held S2 c (.pointer ka)∧NonNil ka fun p91 =>
 ∃(na:Option Addr) (h:Nat) (r:Nat),Held S2 p91 (.slice na h r)∧NonNil ia fun p95 =>
 ∃(ha:Option Addr),Held S2 (p95.add 7) (.pointer ha)∧NonNil ha fun p98 =>
 ∃(z:Int),Held S2 p98 (.int .u32 z)∧InR .u32 (z-(1:Int))∧IdxA na h (z-(1:Int)) 1 fun ea =>
 ∃(ca:Option Addr),Held S2 ea (.pointer ca)∧NonNil ja fun p104 =>
 St aa.drew (p104.add 7) (.pointer ca) fun p =>
 J16 p)
 (J16 aa))))
 (∃S:World→Prop,S ua.drew∧∃(n:Option Addr),Held S c (.pointer n)∧NonNil d fun p110 =>
 ∃(y:Option Addr) (e:Nat) (a:Nat),Held S (p110.add 1) (.slice y e a)∧CallV Tryz.prog (.func (.func 110) #[] #[(.pointer (some c))]) #[(.slice y e a)] ua.drew R (fun v k =>
 ∃(s:Option Addr) (f:Nat) (b:Nat),v=(.slice s f b) ∧
 S k∧NonNil n fun p114 =>
 St k (p114.add 1) (.slice s f b) fun aa =>
 LdP (aa.cell? c) fun fa =>
 R (.returned (.pointer fa)) aa))
def F64_l3 (d:Option Addr) (c:Addr) (ib:Option Addr) (ba:Nat) (L3:Int→World→Prop) (bb:Int) (gb:World) (R:Ending→World→Prop):Prop :=
 Br (decide (bb < ((ba:Nat):Int)))
 (IdxA ib ba bb 1 fun db =>
 LdP (gb.cell? db) fun za =>
 NonNil za fun p34 =>
 LdI .u32 (gb.cell? p34) fun aa =>
 LdI .u32 (gb.cell? (p34.add 1)) fun t =>
 LdB (gb.cell? (p34.add 2)) fun s =>
 LdI .i64 (gb.cell? (p34.add 3)) fun p =>
 LdStr (gb.cell? (p34.add 4)) fun n =>
 LdSl (gb.cell? (p34.add 5)) fun u e b =>
 LdStr (gb.cell? (p34.add 6)) fun z =>
 LdP (gb.cell? (p34.add 7)) fun j =>
 LdSl (gb.cell? (p34.add 8)) fun g a f =>
 Al gb #[(.int .u32 0),(.int .u32 0),(.bool false),(.int .i64 0),(.string (ByteArray.mk #[])),(.slice none 0 0),(.string (ByteArray.mk #[])),(.pointer none),(.slice none 0 0)] 202 fun m_ w1 =>
 St w1 m_ (.int .u32 aa) fun ea =>
 St ea (m_.add 1) (.int .u32 t) fun sa =>
 St sa (m_.add 2) (.bool s) fun va =>
 St va (m_.add 3) (.int .i64 p) fun ga =>
 St ga (m_.add 4) (.string n) fun ta =>
 St ta (m_.add 5) (.slice u e b) fun ja =>
 St ja (m_.add 6) (.string z) fun ra =>
 St ra (m_.add 7) (.pointer j) fun ua =>
 St ua (m_.add 8) (.slice g a f) fun q =>
 NonNil za fun p37 =>
 LdSl (q.cell? (p37.add 5)) fun cb fa ha =>
 Calls Tryz.prog 109 #[(.slice cb fa ha)] q (post R fun v i =>
 ∃(eb:Option Addr) (ka:Nat) (na:Nat),v=(.slice eb ka na) ∧
 St i (m_.add 5) (.slice eb ka na) fun y =>
 ∃S:World→Prop,S y.drew∧∃(fb:Option Addr),Held S c (.pointer fb)∧∃(ab:Option Addr),Held S c (.pointer ab)∧NonNil ab fun p44 =>
 ∃(kb:Option Addr) (qa:Nat) (ma:Nat),Held S p44 (.slice kb qa ma)∧Al y.drew #[(.pointer (some m_))] 152 fun g47 h =>
 S h∧Raw Tryz.prog (Builtin.append_ #[96,96] 96 #[(.slice kb qa ma),(.slice (some g47) 1 1)]) h fun v2 k =>
 ∃(jb:Option Addr) (pa:Nat) (da:Nat),v2=(.slice jb pa da) ∧
 S k∧NonNil fb fun p49 =>
 St k p49 (.slice jb pa da) fun r =>
 InR .i64 (bb+(1:Int))∧L3 (bb+(1:Int)) r))
 (NonNil d fun p54 =>
 LdSl (gb.cell? p54) fun ya ia ca =>
 ∃(I:Int→World→Prop) (m:Int→World→Nat),I (0:Int) gb ∧
 ∀(hb:Int) (w1:World),I hb w1→F64_l11 d c ya ia (fun hb' w2=>I hb' w2∧m hb' w2 < m hb w1) hb w1 R)
def F64_j2 (d:Option Addr) (c:Addr) (f:World) (R:Ending→World→Prop):Prop :=
 NonNil d fun p25 =>
 LdSl (f.cell? p25) fun g a b =>
 ∃(I:Int→World→Prop) (m:Int→World→Nat),I (0:Int) f ∧
 ∀(e:Int) (w1:World),I e w1→F64_l3 d c g a (fun e' w2=>I e' w2∧m e' w2 < m e w1) e w1 R
def F64 (d:Option Addr) (i:World) (R:Ending→World→Prop):Prop :=
 ∃J2:Addr→World→Prop,(∀(c:Addr) (w1:World),J2 c w1→F64_j2 d c w1 R) ∧
 (∃S:World→Prop,S i.drew∧NonNil d fun p11 =>
 ∃(h:Int),Held S (p11.add 2) (.int .i64 h)∧NonNil d fun p15 =>
 ∃(g:Int),Held S (p15.add 3) (.int .i64 g)∧NonNil d fun p19 =>
 ∃(f:Int),Held S (p19.add 4) (.int .i64 f)∧(Al i.drew #[(.slice none 0 0),(.slice none 0 0),(.int .i64 h),(.int .i64 g),(.int .i64 f)] 98 fun g23 e =>
 Al e #[(.pointer none)] 77 fun c b =>
 St b c (.pointer (some g23)) fun a =>
 J2 c a)
 ∧ (Al i.drew #[(.pointer none)] 77 fun c e =>
 S e∧Al e #[(.slice none 0 0),(.slice none 0 0),(.int .i64 h),(.int .i64 g),(.int .i64 f)] 98 fun g23 b =>
 St b c (.pointer (some g23)) fun a =>
 J2 c a))
theorem ok64 (d:Option Addr) {w:World}{R:Ending→World→Prop} (h:F64 d w R):Calls Tryz.prog 64 #[(.pointer d)] w R :=
 vc_calls (pl:=⟨117,⟨[]⟩,[(16,⟨[],[(8,10),(60,106)]⟩),(2,⟨[(3,(.s .addr))],[(3,24)]⟩)],[(3,⟨[(29,(.s (.int .i64)))],[(5,7),(29,52)]⟩),(11,⟨[(58,(.s (.int .i64)))],[(8,10),(58,107)]⟩)]⟩) Tryz.func64 (by kernel_rfl) (by kernel_rfl) (by kernel_rfl) (Eq.mp (by kernel_rfl) h)
def F110_l3 (l:Option Addr) (lN:Nat) (cap0:Addr) (L3:Option Addr→Nat→Nat→Int→World→Prop) (out:Option Addr) (outN:Nat) (outC:Nat) (r:Int) (p:World) (R:Ending→World→Prop):Prop :=
 Br (decide (r < ((lN:Nat):Int)))
 (IdxA l lN r 1 fun q =>
 LdP (p.cell? q) fun g =>
 ∃S:World→Prop,S p.drew∧∃(j:Option Addr),Held S cap0 (.pointer j)∧NonNil j fun p15 =>
 ∃(k:Option Addr) (a:Nat) (f:Nat),Held S p15 (.slice k a f)∧NonNil g fun p19 =>
 ∃(i:Int),Held S p19 (.int .u32 i)∧InR .u32 (i-(1:Int))∧IdxA k a (i-(1:Int)) 1 fun h =>
 ∃(m:Option Addr),Held S h (.pointer m)∧Al p.drew #[(.pointer m)] 152 fun g25 e =>
 Raw Tryz.prog (Builtin.append_ #[96,96] 96 #[(.slice out outN outC),(.slice (some g25) 1 1)]) e fun v d =>
 ∃(n:Option Addr) (b:Nat) (c:Nat),v=(.slice n b c) ∧
 InR .i64 (r+(1:Int))∧L3 n b c (r+(1:Int)) d)
 (R (.returned (.slice out outN outC)) p)
def F110 (l:Option Addr) (lN:Nat) (lC:Nat) (cap0:Addr) (a:World) (R:Ending→World→Prop):Prop :=
 ∃(I:Option Addr→Nat→Nat→Int→World→Prop) (m:Option Addr→Nat→Nat→Int→World→Nat),I none 0 0 (0:Int) a ∧
 ∀(out:Option Addr) (outN:Nat) (outC:Nat) (b:Int) (w1:World),I out outN outC b w1→F110_l3 l lN cap0 (fun out' outN' outC' b' w2=>I out' outN' outC' b' w2∧m out' outN' outC' b' w2 < m out outN outC b w1) out outN outC b w1 R
theorem ok110 (l:Option Addr) (lN:Nat) (lC:Nat) (cap0:Addr) {w:World}{R:Ending→World→Prop} (h:F110 l lN lC cap0 w R):Calls Tryz.prog 110 #[(.slice l lN lC),(.pointer (some cap0))] w R :=
 vc_calls (pl:=⟨29,⟨[]⟩,[],[(3,⟨[(4,(.s .slice)),(9,(.s (.int .i64)))],[(4,7),(9,28)]⟩)]⟩) Tryz.func110 (by kernel_rfl) (by kernel_rfl) (by kernel_rfl) (Eq.mp (by kernel_rfl) h)
def F226 (d:Option Addr) (h_:Int) (c:World) (R:Ending→World→Prop):Prop :=
 Calls Tryz.prog 65 #[(.pointer d),(.int .u64 h_)] c (post R fun v w1 =>
 ∃(e:Option Addr),v=(.pointer e) ∧
 Br (e).isNone
 (R (.returned (.int .i64 8)) w1)
 (Calls Tryz.prog 233 #[(.pointer d),(.pointer e)] w1 (post R fun v2 b =>
 v2=(.tuple #[]) ∧
 Calls Tryz.prog 234 #[(.pointer d),(.pointer e)] b (post R fun v3 a =>
 v3=(.tuple #[]) ∧
 R (.returned (.int .i64 0)) a))))
theorem ok226 (d:Option Addr) (h_:Int) {w:World}{R:Ending→World→Prop} (h:F226 d h_ w R):Calls Tryz.prog 226 #[(.pointer d),(.int .u64 h_)] w R :=
 vc_calls (pl:=⟨17,⟨[]⟩,[],[]⟩) Tryz.func226 (by kernel_rfl) (by kernel_rfl) (by kernel_rfl) (Eq.mp (by kernel_rfl) h)
def F227 (d:Option Addr) (h_:Int) (name:ByteArray) (q:World) (R:Ending→World→Prop):Prop :=
 Calls Tryz.prog 235 #[(.pointer d),(.int .u64 h_),(.int .i64 1)] q (post R fun v w1 =>
 ∃(c:Option Addr) (a:Int),v=(.tuple #[(.pointer c),(.int .i64 a)]) ∧
 Br (a != (0:Int))
 (R (.returned (.int .i64 a)) w1)
 (Calls Tryz.prog 236 #[(.pointer c),(.string name)] w1 (post R fun v2 k =>
 ∃(b:Int) (e:Bool),v2=(.tuple #[(.int .i64 b),(.bool e)]) ∧
 Br (!e)
 (R (.returned (.int .i64 35)) k)
 (NonNil c fun p30 =>
 LdSl (k.cell? (p30.add 5)) fun n g m =>
 InR .i64 (b+(1:Int))∧Calls Tryz.prog 237 #[(.slice n g m),(.int .i64 b),(.int .i64 (b+(1:Int)))] k (post R fun v3 j =>
 ∃(p:Option Addr) (h:Nat) (f:Nat),v3=(.slice p h f) ∧
 NonNil c fun p37 =>
 St j (p37.add 5) (.slice p h f) fun i =>
 R (.returned (.int .i64 0)) i)))))
theorem ok227 (d:Option Addr) (h_:Int) (name:ByteArray) {w:World}{R:Ending→World→Prop} (h:F227 d h_ name w R):Calls Tryz.prog 227 #[(.pointer d),(.int .u64 h_),(.string name)] w R :=
 vc_calls (pl:=⟨39,⟨[]⟩,[],[]⟩) Tryz.func227 (by kernel_rfl) (by kernel_rfl) (by kernel_rfl) (Eq.mp (by kernel_rfl) h)
def F35 (d:Option Addr) (h_:Int) (t:World) (R:Ending→World→Prop):Prop :=
 Al t #[(.int .i64 0),(.string (ByteArray.mk #[])),(.slice none 0 0),(.string (ByteArray.mk #[])),(.slice none 0 0)] 84 fun g4 w1 =>
 Calls Tryz.prog 65 #[(.pointer d),(.int .u64 h_)] w1 (post R fun v s =>
 ∃(u:Option Addr),v=(.pointer u) ∧
 Br (u).isNone
 (St s g4 (.int .i64 0) fun r =>
 St r (g4.add 1) (.string (ByteArray.mk #[])) fun m =>
 St m (g4.add 2) (.slice none 0 0) fun n =>
 St n (g4.add 3) (.string (ByteArray.mk #[])) fun k =>
 St k (g4.add 4) (.slice none 0 0) fun q =>
 LdI .i64 (q.cell? g4) fun res0_0 =>
 LdStr (q.cell? (g4.add 1)) fun res0_1 =>
 LdSl (q.cell? (g4.add 2)) fun res0_2 res0_2N res0_2C =>
 LdStr (q.cell? (g4.add 3)) fun res0_3 =>
 LdSl (q.cell? (g4.add 4)) fun res0_4 res0_4N res0_4C =>
 R (.returned (.tuple #[(.agg #[(.int .i64 res0_0),(.string res0_1),(.slice res0_2 res0_2N res0_2C),(.string res0_3),(.slice res0_4 res0_4N res0_4C)]),(.int .i64 8)])) q)
 (Calls Tryz.prog 66 #[(.pointer u)] s (post R fun v2 r =>
 ∃(g:Int) (f:ByteArray) (i:Option Addr) (b:Nat) (c:Nat) (j:ByteArray) (h:Option Addr) (e:Nat) (a:Nat),v2=(.agg #[(.int .i64 g),(.string f),(.slice i b c),(.string j),(.slice h e a)]) ∧
 St r g4 (.int .i64 g) fun m =>
 St m (g4.add 1) (.string f) fun n =>
 St n (g4.add 2) (.slice i b c) fun k =>
 St k (g4.add 3) (.string j) fun q =>
 St q (g4.add 4) (.slice h e a) fun p =>
 LdI .i64 (p.cell? g4) fun res0_0 =>
 LdStr (p.cell? (g4.add 1)) fun res0_1 =>
 LdSl (p.cell? (g4.add 2)) fun res0_2 res0_2N res0_2C =>
 LdStr (p.cell? (g4.add 3)) fun res0_3 =>
 LdSl (p.cell? (g4.add 4)) fun res0_4 res0_4N res0_4C =>
 R (.returned (.tuple #[(.agg #[(.int .i64 res0_0),(.string res0_1),(.slice res0_2 res0_2N res0_2C),(.string res0_3),(.slice res0_4 res0_4N res0_4C)]),(.int .i64 0)])) p)))
theorem ok35 (d:Option Addr) (h_:Int) {w:World}{R:Ending→World→Prop} (h:F35 d h_ w R):Calls Tryz.prog 35 #[(.pointer d),(.int .u64 h_)] w R :=
 vc_calls (pl:=⟨15,⟨[]⟩,[],[]⟩) Tryz.func35 (by kernel_rfl) (by kernel_rfl) (by kernel_rfl) (Eq.mp (by kernel_rfl) h)
def F73_j10 (d:Option Addr) (where_:Int) (g7:Addr) (l:Addr) (ea:Option Addr) (ca:World) (R:Ending→World→Prop):Prop :=
 Calls Tryz.prog 121 #[(.pointer d),(.int .i64 where_),(.pointer ea)] ca (post R fun v4 s =>
 ∃(k:Option Addr) (q:Int),v4=(.tuple #[(.pointer k),(.int .i64 q)]) ∧
 Br (q != (0:Int))
 (R (.returned (.tuple #[(.int .u64 0),(.int .i64 q)])) s)
 (∃S:World→Prop,S s.drew∧∃(z:Int),Held S (l.add 1) (.int .i64 z)∧Calls Tryz.prog 108 #[(.pointer k)] s.drew (post R fun v5 r =>
 ∃(aa:Int),v5=(.int .i64 aa) ∧
 S r∧InR .i64 (aa+(1:Int))∧InR .i64 ((aa+(1:Int))+z)∧Br (decide (((aa+(1:Int))+z) > (64:Int)))
 (R (.returned (.tuple #[(.int .u64 0),(.int .i64 32)])) r)
 (Dr r fun t =>
 NonNil d fun p55 =>
 LdI .i64 (t.cell? (p55.add 2)) fun da =>
 NonNil d fun p59 =>
 LdI .i64 (t.cell? (p59.add 3)) fun v =>
 InR .i64 (da+v)∧LdI .i64 (t.cell? l) fun u =>
 InR .i64 ((da+v)+u)∧Br (decide (((da+v)+u) > (4096:Int)))
 (R (.returned (.tuple #[(.int .u64 0),(.int .i64 33)])) t)
 (LdI .i64 (t.cell? g7) fun j =>
 LdStr (t.cell? (g7.add 1)) fun g =>
 LdSl (t.cell? (g7.add 2)) fun h b e =>
 LdStr (t.cell? (g7.add 3)) fun m =>
 LdSl (t.cell? (g7.add 4)) fun f a c =>
 Calls Tryz.prog 122 #[(.pointer d),(.agg #[(.int .i64 j),(.string g),(.slice h b e),(.string m),(.slice f a c)]),(.pointer k)] t (post R fun v6 n =>
 ∃(ba:Option Addr),v6=(.pointer ba) ∧
 Calls Tryz.prog 123 #[(.pointer d),(.pointer ba),(.pointer k),(.int .i64 where_),(.pointer ea)] n (post R fun v7 i =>
 v7=(.tuple #[]) ∧
 Calls Tryz.prog 111 #[(.pointer ba)] i (post R fun v8 p =>
 ∃(y:Int),v8=(.int .u64 y) ∧
 R (.returned (.tuple #[(.int .u64 y),(.int .i64 0)])) p))))))))
def F73 (d:Option Addr) (where_:Int) (at_:Int) (x_0:Int) (x_1:ByteArray) (x_2:Option Addr) (x_2N:Nat) (x_2C:Nat) (x_3:ByteArray) (x_4:Option Addr) (x_4N:Nat) (x_4C:Nat) (u:World) (R:Ending→World→Prop):Prop :=
 Al u #[(.int .i64 x_0),(.string x_1),(.slice x_2 x_2N x_2C),(.string x_3),(.slice x_4 x_4N x_4C)] 84 fun g7 w1 =>
 Calls Tryz.prog 119 #[(.int .i64 where_),(.int .u64 at_)] w1 (post R fun v q =>
 ∃(s:Bool),v=(.bool s) ∧
 Br (!s)
 (R (.returned (.tuple #[(.int .u64 0),(.int .i64 1)])) q)
 (Al q #[(.int .i64 0),(.int .i64 0)] 222 fun l p =>
 LdI .i64 (p.cell? g7) fun j =>
 LdStr (p.cell? (g7.add 1)) fun h =>
 LdSl (p.cell? (g7.add 2)) fun i b a =>
 LdStr (p.cell? (g7.add 3)) fun f =>
 LdSl (p.cell? (g7.add 4)) fun g e c =>
 Calls Tryz.prog 120 #[(.pointer (some l)),(.agg #[(.int .i64 j),(.string h),(.slice i b a),(.string f),(.slice g e c)]),(.int .i64 1)] p (post R fun v2 m =>
 ∃(r:Int),v2=(.int .i64 r) ∧
 Br (r != (0:Int))
 (R (.returned (.tuple #[(.int .u64 0),(.int .i64 r)])) m)
 (Calls Tryz.prog 65 #[(.pointer d),(.int .u64 at_)] m (post R fun v3 n =>
 ∃(t:Option Addr),v3=(.pointer t) ∧
 ∃J10:World→Prop,(∀ (k:World),J10 k→F73_j10 d where_ g7 l t k R) ∧
 (Br (at_ != (0:Int))
 (Br (t).isNone
 (R (.returned (.tuple #[(.int .u64 0),(.int .i64 8)])) n)
 (J10 n))
 (J10 n)))))))
theorem ok73 (d:Option Addr) (where_:Int) (at_:Int) (x_0:Int) (x_1:ByteArray) (x_2:Option Addr) (x_2N:Nat) (x_2C:Nat) (x_3:ByteArray) (x_4:Option Addr) (x_4N:Nat) (x_4C:Nat) {w:World}{R:Ending→World→Prop} (h:F73 d where_ at_ x_0 x_1 x_2 x_2N x_2C x_3 x_4 x_4N x_4C w R):Calls Tryz.prog 73 #[(.pointer d),(.int .i64 where_),(.int .u64 at_),(.agg #[(.int .i64 x_0),(.string x_1),(.slice x_2 x_2N x_2C),(.string x_3),(.slice x_4 x_4N x_4C)])] w R :=
 vc_calls (pl:=⟨79,⟨[]⟩,[(10,⟨[],[(8,10),(28,34)]⟩)],[]⟩) Tryz.func73 (by kernel_rfl) (by kernel_rfl) (by kernel_rfl) (Eq.mp (by kernel_rfl) h)
def F117 (d:Option Addr) (h_:Int) (i:World) (R:Ending→World→Prop):Prop :=
 Calls Tryz.prog 65 #[(.pointer d),(.int .u64 h_)] i (post R fun v w1 =>
 ∃(j:Option Addr),v=(.pointer j) ∧
 Br (j).isNone
 (R (.returned (.tuple #[(.slice none 0 0),(.int .i64 8)])) w1)
 (NonNil j fun p13 =>
 LdSl (w1.cell? (p13.add 8)) fun g b a =>
 Calls Tryz.prog 115 #[(.slice g b a)] w1 (post R fun v2 f =>
 ∃(h:Option Addr) (e:Nat) (c:Nat),v2=(.slice h e c) ∧
 R (.returned (.tuple #[(.slice h e c),(.int .i64 0)])) f)))
theorem ok117 (d:Option Addr) (h_:Int) {w:World}{R:Ending→World→Prop} (h:F117 d h_ w R):Calls Tryz.prog 117 #[(.pointer d),(.int .u64 h_)] w R :=
 vc_calls (pl:=⟨17,⟨[]⟩,[],[]⟩) Tryz.func117 (by kernel_rfl) (by kernel_rfl) (by kernel_rfl) (Eq.mp (by kernel_rfl) h)
def F228_j8 (d:Option Addr) (where_:Int) (i:Option Addr) (n:Option Addr) (j:World) (R:Ending→World→Prop):Prop :=
 Calls Tryz.prog 121 #[(.pointer d),(.int .i64 where_),(.pointer n)] j (post R fun v4 e =>
 ∃(b:Option Addr) (a:Int),v4=(.tuple #[(.pointer b),(.int .i64 a)]) ∧
 Br (a != (0:Int))
 (R (.returned (.int .i64 a)) e)
 (Calls Tryz.prog 108 #[(.pointer b)] e (post R fun v5 f =>
 ∃(m:Int),v5=(.int .i64 m) ∧
 InR .i64 (m+(1:Int))∧Calls Tryz.prog 239 #[(.pointer i)] f (post R fun v6 c =>
 ∃(k:Int),v6=(.int .i64 k) ∧
 InR .i64 ((m+(1:Int))+k)∧Br (decide (((m+(1:Int))+k) > (64:Int)))
 (R (.returned (.int .i64 32)) c)
 (Calls Tryz.prog 233 #[(.pointer d),(.pointer i)] c (post R fun v7 h =>
 v7=(.tuple #[]) ∧
 Calls Tryz.prog 123 #[(.pointer d),(.pointer i),(.pointer b),(.int .i64 where_),(.pointer n)] h (post R fun v8 g =>
 v8=(.tuple #[]) ∧
 R (.returned (.int .i64 0)) g)))))))
def F228 (d:Option Addr) (h_:Int) (where_:Int) (at_:Int) (i:World) (R:Ending→World→Prop):Prop :=
 Calls Tryz.prog 119 #[(.int .i64 where_),(.int .u64 at_)] i (post R fun v w1 =>
 ∃(f:Bool),v=(.bool f) ∧
 Br (!f)
 (R (.returned (.int .i64 1)) w1)
 (Calls Tryz.prog 65 #[(.pointer d),(.int .u64 h_)] w1 (post R fun v2 c =>
 ∃(e:Option Addr),v2=(.pointer e) ∧
 Calls Tryz.prog 65 #[(.pointer d),(.int .u64 at_)] c (post R fun v3 b =>
 ∃(h:Option Addr),v3=(.pointer h) ∧
 ∃J8:World→Prop,(∀ (a:World),J8 a→F228_j8 d where_ e h a R) ∧
 (Br (e).isNone
 (R (.returned (.int .i64 8)) b)
 (Br (at_ != (0:Int))
 (Br (h).isNone
 (R (.returned (.int .i64 8)) b)
 (Br (!(h).isNone)
 (Calls Tryz.prog 238 #[(.pointer h),(.pointer e)] b (post R fun v4 a =>
 ∃(g:Bool),v4=(.bool g) ∧
 Br g
 (R (.returned (.int .i64 34)) a)
 (J8 a)))
 (J8 b)))
 (Br (!(h).isNone)
 (Calls Tryz.prog 238 #[(.pointer h),(.pointer e)] b (post R fun v4 a =>
 ∃(g:Bool),v4=(.bool g) ∧
 Br g
 (R (.returned (.int .i64 34)) a)
 (J8 a)))
 (J8 b))))))))
theorem ok228 (d:Option Addr) (h_:Int) (where_:Int) (at_:Int) {w:World}{R:Ending→World→Prop} (h:F228 d h_ where_ at_ w R):Calls Tryz.prog 228 #[(.pointer d),(.int .u64 h_),(.int .i64 where_),(.int .u64 at_)] w R :=
 vc_calls (pl:=⟨70,⟨[]⟩,[(8,⟨[],[(8,9),(23,42)]⟩)],[]⟩) Tryz.func228 (by kernel_rfl) (by kernel_rfl) (by kernel_rfl) (Eq.mp (by kernel_rfl) h)
def F124 (d:Option Addr) (h_:Int) (e:World) (R:Ending→World→Prop):Prop :=
 Calls Tryz.prog 65 #[(.pointer d),(.int .u64 h_)] e (post R fun v w1 =>
 ∃(f:Option Addr),v=(.pointer f) ∧
 Br (f).isNone
 (R (.returned (.tuple #[(.int .u64 0),(.int .i64 8)])) w1)
 (NonNil f fun p13 =>
 LdP (w1.cell? (p13.add 7)) fun b =>
 Calls Tryz.prog 111 #[(.pointer b)] w1 (post R fun v2 a =>
 ∃(c:Int),v2=(.int .u64 c) ∧
 R (.returned (.tuple #[(.int .u64 c),(.int .i64 0)])) a)))
theorem ok124 (d:Option Addr) (h_:Int) {w:World}{R:Ending→World→Prop} (h:F124 d h_ w R):Calls Tryz.prog 124 #[(.pointer d),(.int .u64 h_)] w R :=
 vc_calls (pl:=⟨17,⟨[]⟩,[],[]⟩) Tryz.func124 (by kernel_rfl) (by kernel_rfl) (by kernel_rfl) (Eq.mp (by kernel_rfl) h)
def F69 (d:Option Addr) (f:World) (R:Ending→World→Prop):Prop :=
 NonNil d fun p4 =>
 LdSl (f.cell? (p4.add 1)) fun g a e =>
 Calls Tryz.prog 115 #[(.slice g a e)] f (post R fun v w1 =>
 ∃(h:Option Addr) (c:Nat) (b:Nat),v=(.slice h c b) ∧
 R (.returned (.slice h c b)) w1)
theorem ok69 (d:Option Addr) {w:World}{R:Ending→World→Prop} (h:F69 d w R):Calls Tryz.prog 69 #[(.pointer d)] w R :=
 vc_calls (pl:=⟨8,⟨[]⟩,[],[]⟩) Tryz.func69 (by kernel_rfl) (by kernel_rfl) (by kernel_rfl) (Eq.mp (by kernel_rfl) h)
def F229_j15  (a:World) (R:Ending→World→Prop):Prop :=
 R (.returned (.int .i64 0)) a
def F229 (d:Option Addr) (h_:Int) (name:ByteArray) (value:ByteArray) (w_:World) (R:Ending→World→Prop):Prop :=
 Calls Tryz.prog 235 #[(.pointer d),(.int .u64 h_),(.int .i64 1)] w_ (post R fun v w1 =>
 ∃(a:Option Addr) (f:Int),v=(.tuple #[(.pointer a),(.int .i64 f)]) ∧
 Br (f != (0:Int))
 (R (.returned (.int .i64 f)) w1)
 (Calls Tryz.prog 185 #[(.string name)] w1 (post R fun v2 m =>
 ∃(ea:Bool),v2=(.bool ea) ∧
 Br (!ea)
 (R (.returned (.int .i64 6)) m)
 (Calls Tryz.prog 67 #[(.string value)] m (post R fun v3 s =>
 ∃(g:Int) (e:Int),v3=(.tuple #[(.int .i64 g),(.int .i64 e)]) ∧
 Br (e != (0:Int))
 (R (.returned (.int .i64 e)) s)
 (Calls Tryz.prog 236 #[(.pointer a),(.string name)] s (post R fun v4 y =>
 ∃(c:Int) (b:Bool),v4=(.tuple #[(.int .i64 c),(.bool b)]) ∧
 ∃J15:World→Prop,(∀ (n:World),J15 n→F229_j15 n R) ∧
 (Br b
 (NonNil a fun p59 =>
 LdSl (y.cell? (p59.add 5)) fun aa i k =>
 IdxA aa i c 2 fun fa =>
 St y (fa.add 1) (.string value) fun n =>
 J15 n)
 (NonNil a fun p68 =>
 LdSl (y.cell? (p68.add 5)) fun da z r =>
 Br (decide (((z:Nat):Int)≥(32:Int)))
 (R (.returned (.int .i64 2)) y)
 (NonNil a fun p45 =>
 LdSl (y.cell? (p45.add 5)) fun ca q h =>
 Al y #[(.string name),(.string value)] 205 fun g52 n =>
 Calls Tryz.prog 240 #[(.slice ca q h),(.int .i64 c),(.slice (some g52) 1 1)] n (post R fun v5 t =>
 ∃(ba:Option Addr) (u:Nat) (j:Nat),v5=(.slice ba u j) ∧
 NonNil a fun p54 =>
 St t (p54.add 5) (.slice ba u j) fun p =>
 J15 p)))))))))))
theorem ok229 (d:Option Addr) (h_:Int) (name:ByteArray) (value:ByteArray) {w:World}{R:Ending→World→Prop} (h:F229 d h_ name value w R):Calls Tryz.prog 229 #[(.pointer d),(.int .u64 h_),(.string name),(.string value)] w R :=
 vc_calls (pl:=⟨73,⟨[]⟩,[(15,⟨[],[(8,73)]⟩)],[]⟩) Tryz.func229 (by kernel_rfl) (by kernel_rfl) (by kernel_rfl) (Eq.mp (by kernel_rfl) h)
def F230 (d:Option Addr) (h_:Int) (name:ByteArray) (g:World) (R:Ending→World→Prop):Prop :=
 Calls Tryz.prog 235 #[(.pointer d),(.int .u64 h_),(.int .i64 1)] g (post R fun v w1 =>
 ∃(a:Option Addr) (b:Int),v=(.tuple #[(.pointer a),(.int .i64 b)]) ∧
 Br (b != (0:Int))
 (R (.returned (.int .i64 b)) w1)
 (Calls Tryz.prog 185 #[(.string name)] w1 (post R fun v2 e =>
 ∃(f:Bool),v2=(.bool f) ∧
 Br (!f)
 (R (.returned (.int .i64 6)) e)
 (NonNil a fun p25 =>
 St e (p25.add 4) (.string name) fun c =>
 R (.returned (.int .i64 0)) c))))
theorem ok230 (d:Option Addr) (h_:Int) (name:ByteArray) {w:World}{R:Ending→World→Prop} (h:F230 d h_ name w R):Calls Tryz.prog 230 #[(.pointer d),(.int .u64 h_),(.string name)] w R :=
 vc_calls (pl:=⟨27,⟨[]⟩,[],[]⟩) Tryz.func230 (by kernel_rfl) (by kernel_rfl) (by kernel_rfl) (Eq.mp (by kernel_rfl) h)
def F231 (d:Option Addr) (h_:Int) (text:ByteArray) (h:World) (R:Ending→World→Prop):Prop :=
 Calls Tryz.prog 235 #[(.pointer d),(.int .u64 h_),(.int .i64 2)] h (post R fun v w1 =>
 ∃(c:Option Addr) (a:Int),v=(.tuple #[(.pointer c),(.int .i64 a)]) ∧
 Br (a != (0:Int))
 (R (.returned (.int .i64 a)) w1)
 (Calls Tryz.prog 67 #[(.string text)] w1 (post R fun v2 g =>
 ∃(b:Int) (e:Int),v2=(.tuple #[(.int .i64 b),(.int .i64 e)]) ∧
 Br (e != (0:Int))
 (R (.returned (.int .i64 e)) g)
 (NonNil c fun p30 =>
 St g (p30.add 6) (.string text) fun f =>
 R (.returned (.int .i64 0)) f))))
theorem ok231 (d:Option Addr) (h_:Int) (text:ByteArray) {w:World}{R:Ending→World→Prop} (h:F231 d h_ text w R):Calls Tryz.prog 231 #[(.pointer d),(.int .u64 h_),(.string text)] w R :=
 vc_calls (pl:=⟨32,⟨[]⟩,[],[]⟩) Tryz.func231 (by kernel_rfl) (by kernel_rfl) (by kernel_rfl) (Eq.mp (by kernel_rfl) h)
def F65_j7 (a:Option Addr) (b:World) (R:Ending→World→Prop):Prop :=
 R (.returned (.pointer a)) b
def F65_j4 (d:Option Addr) (h_:Int) (f:World) (R:Ending→World→Prop):Prop :=
 NonNil d fun p22 =>
 LdSl (f.cell? p22) fun e a b =>
 InR .u64 ((bAnd .u64 h_ (4294967295:Int))-(1:Int))∧IdxA e a ((bAnd .u64 h_ (4294967295:Int))-(1:Int)) 1 fun c =>
 LdP (f.cell? c) fun g =>
 ∃J7:World→Prop,(∀ (w1:World),J7 w1→F65_j7 g w1 R) ∧
 (NonNil g fun p30 =>
 LdB (f.cell? (p30.add 2)) fun h =>
 Br (!h)
 (R (.returned (.pointer none)) f)
 (Calls Tryz.prog 111 #[(.pointer g)] f (post R fun v w1 =>
 ∃(i:Int),v=(.int .u64 i) ∧
 Br (i != h_)
 (R (.returned (.pointer none)) w1)
 (J7 w1))))
def F65 (d:Option Addr) (h_:Int) (e:World) (R:Ending→World→Prop):Prop :=
 ∃J4:World→Prop,(∀ (w1:World),J4 w1→F65_j4 d h_ w1 R) ∧
 (Br ((bAnd .u64 h_ (4294967295:Int)) == (0:Int))
 (R (.returned (.pointer none)) e)
 (NonNil d fun p14 =>
 LdSl (e.cell? p14) fun c a b =>
 InR .u64 (((a:Nat):Int))∧Br (decide ((bAnd .u64 h_ (4294967295:Int)) > (((a:Nat):Int))))
 (R (.returned (.pointer none)) e)
 (J4 e)))
theorem ok65 (d:Option Addr) (h_:Int) {w:World}{R:Ending→World→Prop} (h:F65 d h_ w R):Calls Tryz.prog 65 #[(.pointer d),(.int .u64 h_)] w R :=
 vc_calls (pl:=⟨41,⟨[]⟩,[(7,⟨[],[(4,5),(29,40)]⟩),(4,⟨[],[(4,5),(9,21)]⟩)],[]⟩) Tryz.func65 (by kernel_rfl) (by kernel_rfl) (by kernel_rfl) (Eq.mp (by kernel_rfl) h)
def F159_j5 (d:Option Addr) (k:World) (R:Ending→World→Prop):Prop :=
 Dr k fun w1 =>
 NonNil d fun p80 =>
 LdSl (w1.cell? p80) fun m b e =>
 NonNil d fun p84 =>
 LdI .i64 (w1.cell? (p84.add 4)) fun h =>
 IdxA m b h 1 fun i =>
 LdP (w1.cell? i) fun j =>
 NonNil j fun p90 =>
 LdI .u32 (w1.cell? (p90.add 1)) fun n =>
 InR .u32 (n+(1:Int))∧NonNil j fun p94 =>
 St w1 (p94.add 1) (.int .u32 (n+(1:Int))) fun g =>
 NonNil j fun p97 =>
 St g (p97.add 2) (.bool true) fun f =>
 NonNil d fun p100 =>
 LdI .i64 (f.cell? (p100.add 2)) fun a =>
 InR .i64 (a+(1:Int))∧NonNil d fun p104 =>
 St f (p104.add 2) (.int .i64 (a+(1:Int))) fun c =>
 R (.returned (.pointer j)) c
def F159_j3 (d:Option Addr) (p:World) (R:Ending→World→Prop):Prop :=
 ∃J5:World→Prop,(∀ (w1:World),J5 w1→F159_j5 d w1 R) ∧
 (Dr p fun w1 =>
 NonNil d fun p53 =>
 LdI .i64 (w1.cell? (p53.add 4)) fun r =>
 NonNil d fun p57 =>
 LdSl (w1.cell? p57) fun n g e =>
 Br (r == ((g:Nat):Int))
 (∃S:World→Prop,S w1.drew∧NonNil d fun p64 =>
 ∃(s:Option Addr) (c:Nat) (a:Nat),Held S p64 (.slice s c a)∧NonNil d fun p68 =>
 ∃(q:Int),Held S (p68.add 4) (.int .i64 q)∧InR .i64 (q+(1:Int))∧InR .u32 ((q+(1:Int)))∧Al w1.drew #[(.int .u32 ((q+(1:Int)))),(.int .u32 0),(.bool false),(.int .i64 0),(.string (ByteArray.mk #[])),(.slice none 0 0),(.string (ByteArray.mk #[])),(.pointer none),(.slice none 0 0)] 202 fun g74 k =>
 S k∧Al k #[(.pointer (some g74))] 152 fun g75 i =>
 S i∧Raw Tryz.prog (Builtin.append_ #[96,96] 96 #[(.slice s c a),(.slice (some g75) 1 1)]) i fun v j =>
 ∃(m:Option Addr) (h:Nat) (f:Nat),v=(.slice m h f) ∧
 NonNil d fun p77 =>
 St j p77 (.slice m h f) fun b =>
 J5 b)
 (J5 w1))
def F159_j2 (d:Option Addr) (L1:World→Prop) (a:World) (R:Ending→World→Prop):Prop :=
 NonNil d fun p46 =>
 LdI .i64 (a.cell? (p46.add 4)) fun b =>
 InR .i64 (b+(1:Int))∧NonNil d fun p50 =>
 St a (p50.add 4) (.int .i64 (b+(1:Int))) fun w1 =>
 L1 w1
def F159_l1 (d:Option Addr) (J3:World→Prop) (L1:World→Prop) (t:World) (R:Ending→World→Prop):Prop :=
 ∃J2:World→Prop,(∀ (w1:World),J2 w1→F159_j2 d L1 w1 R) ∧
 (Dr t fun w1 =>
 NonNil d fun p5 =>
 LdI .i64 (w1.cell? (p5.add 4)) fun v =>
 NonNil d fun p9 =>
 LdSl (w1.cell? p9) fun j a e =>
 Br (decide (v < ((a:Nat):Int)))
 (NonNil d fun p16 =>
 LdSl (w1.cell? p16) fun n b c =>
 NonNil d fun p20 =>
 LdI .i64 (w1.cell? (p20.add 4)) fun k =>
 IdxA n b k 1 fun h =>
 LdP (w1.cell? h) fun s =>
 NonNil s fun p25 =>
 LdB (w1.cell? (p25.add 2)) fun u =>
 Br u
 (J2 w1)
 (NonNil d fun p30 =>
 LdSl (w1.cell? p30) fun i f g =>
 NonNil d fun p34 =>
 LdI .i64 (w1.cell? (p34.add 4)) fun p =>
 IdxA i f p 1 fun r =>
 LdP (w1.cell? r) fun m =>
 NonNil m fun p39 =>
 LdI .u32 (w1.cell? (p39.add 1)) fun q =>
 Br (q == (4294967295:Int))
 (J2 w1)
 (J3 w1)))
 (J3 w1))
def F159 (d:Option Addr) (a:World) (R:Ending→World→Prop):Prop :=
 ∃J3:World→Prop,(∀ (w1:World),J3 w1→F159_j3 d w1 R) ∧
 (∃(I:World→Prop) (m:World→Nat),I  a ∧
 ∀ (w1:World),I  w1→F159_l1 d J3 (fun  w2=>I  w2∧m  w2 < m  w1)  w1 R)
theorem ok159 (d:Option Addr) {w:World}{R:Ending→World→Prop} (h:F159 d w R):Calls Tryz.prog 159 #[(.pointer d)] w R :=
 vc_calls (pl:=⟨107,⟨[]⟩,[(2,⟨[],[(4,45)]⟩),(5,⟨[],[(52,79)]⟩),(3,⟨[],[(4,52)]⟩)],[(1,⟨[],[(4,52)]⟩)]⟩) Tryz.func159 (by kernel_rfl) (by kernel_rfl) (by kernel_rfl) (Eq.mp (by kernel_rfl) h)
def F234_j9 (d:Option Addr) (n:Option Addr) (b:World) (R:Ending→World→Prop):Prop :=
 ∃S2:World→Prop,S2 b.drew∧NonNil d fun p51 =>
 ∃(c:Int),Held S2 (p51.add 4) (.int .i64 c)∧NonNil n fun p55 =>
 ∃(e:Int),Held S2 p55 (.int .u32 e)∧InR .i64 (e)∧InR .i64 ((e)-(1:Int))∧NonNil d fun p61 =>
 St b.drew (p61.add 4) (.int .i64 (if ((e)-(1:Int)) < c then ((e)-(1:Int)) else c)) fun a =>
 R (.returned (.tuple #[])) a
def F234_l1 (d:Option Addr) (n:Option Addr) (x9:Option Addr) (s:Nat) (L1:Int→World→Prop) (q:Int) (aa:World) (R:Ending→World→Prop):Prop :=
 Br (decide (q < ((s:Nat):Int)))
 (IdxA x9 s q 1 fun p =>
 LdP (aa.cell? p) fun u =>
 Calls Tryz.prog 234 #[(.pointer d),(.pointer u)] aa (post R fun v w1 =>
 v=(.tuple #[]) ∧
 InR .i64 (q+(1:Int))∧L1 (q+(1:Int)) w1))
 (∃S:World→Prop,S aa.drew∧NonNil n fun p21 =>
 ∃(r:Int),Held S p21 (.int .u32 r)∧NonNil n fun p25 =>
 ∃(t:Int),Held S (p25.add 1) (.int .u32 t)∧NonNil n fun p29 =>
 St aa.drew p29 (.int .u32 r) fun e =>
 St e (p29.add 1) (.int .u32 t) fun i =>
 St i (p29.add 2) (.bool false) fun m =>
 St m (p29.add 3) (.int .i64 0) fun f =>
 St f (p29.add 4) (.string (ByteArray.mk #[])) fun j =>
 St j (p29.add 5) (.slice none 0 0) fun g =>
 St g (p29.add 6) (.string (ByteArray.mk #[])) fun h =>
 St h (p29.add 7) (.pointer none) fun k =>
 St k (p29.add 8) (.slice none 0 0) fun b =>
 NonNil d fun p31 =>
 LdI .i64 (b.cell? (p31.add 2)) fun ba =>
 InR .i64 (ba-(1:Int))∧NonNil d fun p35 =>
 St b (p35.add 2) (.int .i64 (ba-(1:Int))) fun a =>
 ∃J9:World→Prop,(∀ (c:World),J9 c→F234_j9 d n c R) ∧
 (NonNil n fun p38 =>
 LdI .u32 (a.cell? (p38.add 1)) fun y =>
 Br (y == (4294967295:Int))
 (NonNil d fun p43 =>
 LdI .i64 (a.cell? (p43.add 3)) fun z =>
 InR .i64 (z+(1:Int))∧NonNil d fun p47 =>
 St a (p47.add 3) (.int .i64 (z+(1:Int))) fun c =>
 J9 c)
 (J9 a)))
def F234 (d:Option Addr) (n:Option Addr) (e:World) (R:Ending→World→Prop):Prop :=
 NonNil n fun p7 =>
 LdSl (e.cell? (p7.add 8)) fun f a b =>
 ∃(I:Int→World→Prop) (m:Int→World→Nat),I (0:Int) e ∧
 ∀(c:Int) (w1:World),I c w1→F234_l1 d n f a (fun c' w2=>I c' w2∧m c' w2 < m c w1) c w1 R
theorem ok234 (d:Option Addr) (n:Option Addr) {w:World}{R:Ending→World→Prop} (h:F234 d n w R):Calls Tryz.prog 234 #[(.pointer d),(.pointer n)] w R :=
 vc_calls (pl:=⟨63,⟨[]⟩,[(9,⟨[],[(37,49)]⟩)],[(1,⟨[(11,(.s (.int .i64)))],[(5,6),(11,19)]⟩)]⟩) Tryz.func234 (by kernel_rfl) (by kernel_rfl) (by kernel_rfl) (Eq.mp (by kernel_rfl) h)
def F153 (d:Option Addr) (n:Option Addr) (a:World) (R:Ending→World→Prop):Prop :=
 Br (n).isNone
 (NonNil d fun p8 =>
 R (.returned (.pointer (some (p8.add 1)))) a)
 (NonNil n fun p11 =>
 R (.returned (.pointer (some (p11.add 8)))) a)
theorem ok153 (d:Option Addr) (n:Option Addr) {w:World}{R:Ending→World→Prop} (h:F153 d n w R):Calls Tryz.prog 153 #[(.pointer d),(.pointer n)] w R :=
 vc_calls (pl:=⟨13,⟨[]⟩,[],[]⟩) Tryz.func153 (by kernel_rfl) (by kernel_rfl) (by kernel_rfl) (Eq.mp (by kernel_rfl) h)
def F122_l8 (d:Option Addr) (qa:Option Addr) (ua:Option Addr) (ma:Nat) (L8:Int→World→Prop) (ta:Int) (va:World) (R:Ending→World→Prop):Prop :=
 Br (decide (ta < ((ma:Nat):Int)))
 (IdxA ua ma ta 5 fun ra =>
 LdI .i64 (va.cell? ra) fun q =>
 LdStr (va.cell? (ra.add 1)) fun ba =>
 LdSl (va.cell? (ra.add 2)) fun aa g e =>
 LdStr (va.cell? (ra.add 3)) fun s =>
 LdSl (va.cell? (ra.add 4)) fun z h f =>
 Al va #[(.int .i64 0),(.string (ByteArray.mk #[])),(.slice none 0 0),(.string (ByteArray.mk #[])),(.slice none 0 0)] 84 fun k na =>
 St na k (.int .i64 q) fun ca =>
 St ca (k.add 1) (.string ba) fun t =>
 St t (k.add 2) (.slice aa g e) fun fa =>
 St fa (k.add 3) (.string s) fun da =>
 St da (k.add 4) (.slice z h f) fun m =>
 ∃S2:World→Prop,S2 m.drew∧NonNil qa fun p50 =>
 ∃(sa:Option Addr) (ia:Nat) (ka:Nat),Held S2 (p50.add 8) (.slice sa ia ka)∧∃(r:Int),Held S2 k (.int .i64 r)∧∃(y:ByteArray),Held S2 (k.add 1) (.string y)∧∃(n:Option Addr) (a:Nat) (c:Nat),Held S2 (k.add 2) (.slice n a c)∧∃(j:ByteArray),Held S2 (k.add 3) (.string j)∧∃(p:Option Addr) (i:Nat) (b:Nat),Held S2 (k.add 4) (.slice p i b)∧Calls Tryz.prog 122 #[(.pointer d),(.agg #[(.int .i64 r),(.string y),(.slice n a c),(.string j),(.slice p i b)]),(.pointer qa)] m.drew (post R fun v3 ea =>
 ∃(pa:Option Addr),v3=(.pointer pa) ∧
 S2 ea∧Al ea #[(.pointer pa)] 152 fun g57 v =>
 S2 v∧Raw Tryz.prog (Builtin.append_ #[96,96] 96 #[(.slice sa ia ka),(.slice (some g57) 1 1)]) v fun v4 u =>
 ∃(ya:Option Addr) (ha:Nat) (ja:Nat),v4=(.slice ya ha ja) ∧
 NonNil qa fun p59 =>
 St u (p59.add 8) (.slice ya ha ja) fun ga =>
 InR .i64 (ta+(1:Int))∧L8 (ta+(1:Int)) ga))
 (R (.returned (.pointer qa)) va)
def F122 (d:Option Addr) (x_0:Int) (x_1:ByteArray) (x_2:Option Addr) (x_2N:Nat) (x_2C:Nat) (x_3:ByteArray) (x_4:Option Addr) (x_4N:Nat) (x_4C:Nat) (parent:Option Addr) (w_:World) (R:Ending→World→Prop):Prop :=
 Al w_ #[(.int .i64 x_0),(.string x_1),(.slice x_2 x_2N x_2C),(.string x_3),(.slice x_4 x_4N x_4C)] 84 fun g4 w1 =>
 Calls Tryz.prog 159 #[(.pointer d)] w1 (post R fun v b =>
 ∃(t:Option Addr),v=(.pointer t) ∧
 LdI .i64 (b.cell? g4) fun ca =>
 NonNil t fun p17 =>
 St b (p17.add 3) (.int .i64 ca) fun k =>
 NonNil t fun p19 =>
 St k (p19.add 7) (.pointer parent) fun r =>
 LdI .i64 (r.cell? g4) fun u =>
 Br (u == (2:Int))
 (LdStr (r.cell? (g4.add 3)) fun s =>
 NonNil t fun p27 =>
 St r (p27.add 6) (.string s) fun c =>
 R (.returned (.pointer t)) c)
 (∃S:World→Prop,S r.drew∧∃(da:ByteArray),Held S (g4.add 1) (.string da)∧∃(z:Option Addr) (n:Nat) (j:Nat),Held S (g4.add 2) (.slice z n j)∧Calls Tryz.prog 109 #[(.slice z n j)] r.drew (post R fun v2 p =>
 ∃(y:Option Addr) (e:Nat) (g:Nat),v2=(.slice y e g) ∧
 S p∧NonNil t fun p37 =>
 St p (p37.add 4) (.string da) fun f =>
 NonNil t fun p39 =>
 St f (p39.add 5) (.slice y e g) fun h =>
 LdSl (h.cell? (g4.add 4)) fun ba i a =>
 ∃(I:Int→World→Prop) (m:Int→World→Nat),I (0:Int) h ∧
 ∀(aa:Int) (q:World),I aa q→F122_l8 d t ba i (fun aa' w2=>I aa' w2∧m aa' w2 < m aa q) aa q R)))
theorem ok122 (d:Option Addr) (x_0:Int) (x_1:ByteArray) (x_2:Option Addr) (x_2N:Nat) (x_2C:Nat) (x_3:ByteArray) (x_4:Option Addr) (x_4N:Nat) (x_4C:Nat) (parent:Option Addr) {w:World}{R:Ending→World→Prop} (h:F122 d x_0 x_1 x_2 x_2N x_2C x_3 x_4 x_4N x_4C parent w R):Calls Tryz.prog 122 #[(.pointer d),(.agg #[(.int .i64 x_0),(.string x_1),(.slice x_2 x_2N x_2C),(.string x_3),(.slice x_4 x_4N x_4C)]),(.pointer parent)] w R :=
 vc_calls (pl:=⟨63,⟨[]⟩,[],[(8,⟨[(44,(.s (.int .i64)))],[(9,10),(44,62)]⟩)]⟩) Tryz.func122 (by kernel_rfl) (by kernel_rfl) (by kernel_rfl) (Eq.mp (by kernel_rfl) h)
def F235 (d:Option Addr) (h_:Int) (kind:Int) (c:World) (R:Ending→World→Prop):Prop :=
 Calls Tryz.prog 65 #[(.pointer d),(.int .u64 h_)] c (post R fun v w1 =>
 ∃(a:Option Addr),v=(.pointer a) ∧
 Br (a).isNone
 (R (.returned (.tuple #[(.pointer none),(.int .i64 8)])) w1)
 (NonNil a fun p17 =>
 LdI .i64 (w1.cell? (p17.add 3)) fun b =>
 Br (b != kind)
 (R (.returned (.tuple #[(.pointer none),(.int .i64 30)])) w1)
 (R (.returned (.tuple #[(.pointer a),(.int .i64 0)])) w1)))
theorem ok235 (d:Option Addr) (h_:Int) (kind:Int) {w:World}{R:Ending→World→Prop} (h:F235 d h_ kind w R):Calls Tryz.prog 235 #[(.pointer d),(.int .u64 h_),(.int .i64 kind)] w R :=
 vc_calls (pl:=⟨23,⟨[]⟩,[],[]⟩) Tryz.func235 (by kernel_rfl) (by kernel_rfl) (by kernel_rfl) (Eq.mp (by kernel_rfl) h)
def F233 (d:Option Addr) (n:Option Addr) (t:World) (R:Ending→World→Prop):Prop :=
 NonNil n fun p8 =>
 LdP (t.cell? (p8.add 7)) fun r =>
 Calls Tryz.prog 153 #[(.pointer d),(.pointer r)] t (post R fun v w1 =>
 ∃(q:Option Addr),v=(.pointer q) ∧
 NonNil q fun p13 =>
 LdSl (w1.cell? p13) fun k b j =>
 Calls Tryz.prog 160 #[(.slice k b j),(.pointer n)] w1 (post R fun v2 c =>
 ∃(s:Int),v2=(.int .i64 s) ∧
 NonNil q fun p19 =>
 LdSl (c.cell? p19) fun m h i =>
 InR .i64 (s+(1:Int))∧Calls Tryz.prog 241 #[(.slice m h i),(.int .i64 s),(.int .i64 (s+(1:Int)))] c (post R fun v3 e =>
 ∃(p:Option Addr) (a:Nat) (f:Nat),v3=(.slice p a f) ∧
 NonNil q fun p25 =>
 St e p25 (.slice p a f) fun g =>
 R (.returned (.tuple #[])) g)))
theorem ok233 (d:Option Addr) (n:Option Addr) {w:World}{R:Ending→World→Prop} (h:F233 d n w R):Calls Tryz.prog 233 #[(.pointer d),(.pointer n)] w R :=
 vc_calls (pl:=⟨26,⟨[]⟩,[],[]⟩) Tryz.func233 (by kernel_rfl) (by kernel_rfl) (by kernel_rfl) (Eq.mp (by kernel_rfl) h)
def F121_j5 (at_:Option Addr) (a:World) (R:Ending→World→Prop):Prop :=
 R (.returned (.tuple #[(.pointer at_),(.int .i64 0)])) a
def F121 (d:Option Addr) (where_:Int) (at_:Option Addr) (c:World) (R:Ending→World→Prop):Prop :=
 ∃J5:World→Prop,(∀ (w1:World),J5 w1→F121_j5 at_ w1 R) ∧
 (Br (decide (where_ > (2:Int)))
 (NonNil at_ fun p12 =>
 LdP (c.cell? (p12.add 7)) fun a =>
 R (.returned (.tuple #[(.pointer a),(.int .i64 0)])) c)
 (Br (!(at_).isNone)
 (NonNil at_ fun p20 =>
 LdI .i64 (c.cell? (p20.add 3)) fun b =>
 Br (b == (2:Int))
 (R (.returned (.tuple #[(.pointer none),(.int .i64 31)])) c)
 (J5 c))
 (J5 c)))
theorem ok121 (d:Option Addr) (where_:Int) (at_:Option Addr) {w:World}{R:Ending→World→Prop} (h:F121 d where_ at_ w R):Calls Tryz.prog 121 #[(.pointer d),(.int .i64 where_),(.pointer at_)] w R :=
 vc_calls (pl:=⟨26,⟨[]⟩,[(5,⟨[],[(6,25)]⟩)],[]⟩) Tryz.func121 (by kernel_rfl) (by kernel_rfl) (by kernel_rfl) (Eq.mp (by kernel_rfl) h)
def F123_j9 (n:Option Addr) (parent:Option Addr) (k:Option Addr) (i:Int) (m:World) (R:Ending→World→Prop):Prop :=
 NonNil k fun p39 =>
 LdSl (m.cell? p39) fun p g a =>
 Al m #[(.pointer n)] 152 fun g43 h =>
 Calls Tryz.prog 161 #[(.slice p g a),(.int .i64 i),(.slice (some g43) 1 1)] h (post R fun v2 c =>
 ∃(j:Option Addr) (f:Nat) (b:Nat),v2=(.slice j f b) ∧
 NonNil k fun p45 =>
 St c p45 (.slice j f b) fun d =>
 NonNil n fun p48 =>
 St d (p48.add 7) (.pointer parent) fun e =>
 R (.returned (.tuple #[])) e)
def F123 (d:Option Addr) (n:Option Addr) (parent:Option Addr) (where_:Int) (at_:Option Addr) (s:World) (R:Ending→World→Prop):Prop :=
 Calls Tryz.prog 153 #[(.pointer d),(.pointer parent)] s (post R fun v w1 =>
 ∃(j:Option Addr),v=(.pointer j) ∧
 ∃J9:Int→World→Prop,(∀(i:Int) (g:World),J9 i g→F123_j9 n parent j i g R) ∧
 (Br (where_ == (2:Int))
 (NonNil j fun p19 =>
 LdSl (w1.cell? p19) fun k c f =>
 J9 ((c:Nat):Int) w1)
 (Br (where_ == (3:Int))
 (NonNil j fun p25 =>
 LdSl (w1.cell? p25) fun m e h =>
 Calls Tryz.prog 160 #[(.slice m e h),(.pointer at_)] w1 (post R fun v2 g =>
 ∃(p:Int),v2=(.int .i64 p) ∧
 J9 p g))
 (Br (where_ == (4:Int))
 (NonNil j fun p32 =>
 LdSl (w1.cell? p32) fun r a b =>
 Calls Tryz.prog 160 #[(.slice r a b),(.pointer at_)] w1 (post R fun v2 g =>
 ∃(q:Int),v2=(.int .i64 q) ∧
 InR .i64 (q+(1:Int))∧J9 (q+(1:Int)) g))
 (J9 (0:Int) w1)))))
theorem ok123 (d:Option Addr) (n:Option Addr) (parent:Option Addr) (where_:Int) (at_:Option Addr) {w:World}{R:Ending→World→Prop} (h:F123 d n parent where_ at_ w R):Calls Tryz.prog 123 #[(.pointer d),(.pointer n),(.pointer parent),(.int .i64 where_),(.pointer at_)] w R :=
 vc_calls (pl:=⟨50,⟨[]⟩,[(9,⟨[(11,(.s (.int .i64)))],[(11,37)]⟩)],[]⟩) Tryz.func123 (by kernel_rfl) (by kernel_rfl) (by kernel_rfl) (Eq.mp (by kernel_rfl) h)
def F120_l11 (l:Option Addr) (deep:Int) (ha:Option Addr) (da:Nat) (L11:Int→World→Prop) (fa:Int) (ia:World) (R:Ending→World→Prop):Prop :=
 Br (decide (fa < ((da:Nat):Int)))
 (IdxA ha da fa 5 fun ja =>
 LdI .i64 (ia.cell? ja) fun i =>
 LdStr (ia.cell? (ja.add 1)) fun n =>
 LdSl (ia.cell? (ja.add 2)) fun r b e =>
 LdStr (ia.cell? (ja.add 3)) fun y =>
 LdSl (ia.cell? (ja.add 4)) fun q g d =>
 Al ia #[(.int .i64 0),(.string (ByteArray.mk #[])),(.slice none 0 0),(.string (ByteArray.mk #[])),(.slice none 0 0)] 84 fun k z =>
 St z k (.int .i64 i) fun ca =>
 St ca (k.add 1) (.string n) fun aa =>
 St aa (k.add 2) (.slice r b e) fun ba =>
 St ba (k.add 3) (.string y) fun ea =>
 St ea (k.add 4) (.slice q g d) fun u =>
 LdI .i64 (u.cell? k) fun t =>
 LdStr (u.cell? (k.add 1)) fun s =>
 LdSl (u.cell? (k.add 2)) fun v f c =>
 LdStr (u.cell? (k.add 3)) fun j =>
 LdSl (u.cell? (k.add 4)) fun p h a =>
 InR .i64 (deep+(1:Int))∧Calls Tryz.prog 120 #[(.pointer l),(.agg #[(.int .i64 t),(.string s),(.slice v f c),(.string j),(.slice p h a)]),(.int .i64 (deep+(1:Int)))] u (post R fun v2 m =>
 ∃(ga:Int),v2=(.int .i64 ga) ∧
 Br (ga != (0:Int))
 (R (.returned (.int .i64 ga)) m)
 (InR .i64 (fa+(1:Int))∧L11 (fa+(1:Int)) m)))
 (R (.returned (.int .i64 0)) ia)
def F120_j3 (l:Option Addr) (deep:Int) (g4:Addr) (ba:World) (R:Ending→World→Prop):Prop :=
 LdI .i64 (ba.cell? g4) fun h =>
 LdStr (ba.cell? (g4.add 1)) fun f =>
 LdSl (ba.cell? (g4.add 2)) fun g b a =>
 LdStr (ba.cell? (g4.add 3)) fun e =>
 LdSl (ba.cell? (g4.add 4)) fun i c d =>
 Calls Tryz.prog 152 #[(.agg #[(.int .i64 h),(.string f),(.slice g b a),(.string e),(.slice i c d)])] ba (post R fun v j =>
 ∃(s:Int),v=(.int .i64 s) ∧
 Br (s != (0:Int))
 (R (.returned (.int .i64 s)) j)
 (NonNil l fun p26 =>
 LdI .i64 (j.cell? p26) fun u =>
 InR .i64 (u+(1:Int))∧NonNil l fun p30 =>
 St j p30 (.int .i64 (u+(1:Int))) fun p =>
 NonNil l fun p34 =>
 LdI .i64 (p.cell? (p34.add 1)) fun y =>
 NonNil l fun p39 =>
 St p (p39.add 1) (.int .i64 (if deep > y then deep else y)) fun r =>
 LdI .i64 (r.cell? g4) fun aa =>
 Br (aa == (2:Int))
 (R (.returned (.int .i64 0)) r)
 (LdSl (r.cell? (g4.add 4)) fun z q k =>
 ∃(I:Int→World→Prop) (m:Int→World→Nat),I (0:Int) r ∧
 ∀(t:Int) (n:World),I t n→F120_l11 l deep z q (fun t' w2=>I t' w2∧m t' w2 < m t n) t n R)))
def F120 (l:Option Addr) (x_0:Int) (x_1:ByteArray) (x_2:Option Addr) (x_2N:Nat) (x_2C:Nat) (x_3:ByteArray) (x_4:Option Addr) (x_4N:Nat) (x_4C:Nat) (deep:Int) (c:World) (R:Ending→World→Prop):Prop :=
 Al c #[(.int .i64 x_0),(.string x_1),(.slice x_2 x_2N x_2C),(.string x_3),(.slice x_4 x_4N x_4C)] 84 fun g4 w1 =>
 ∃J3:World→Prop,(∀ (a:World),J3 a→F120_j3 l deep g4 a R) ∧
 (Br (decide (deep > (64:Int)))
 (R (.returned (.int .i64 2)) w1)
 (NonNil l fun p15 =>
 LdI .i64 (w1.cell? p15) fun b =>
 Br (decide (b≥(4096:Int)))
 (R (.returned (.int .i64 2)) w1)
 (J3 w1)))
theorem ok120 (l:Option Addr) (x_0:Int) (x_1:ByteArray) (x_2:Option Addr) (x_2N:Nat) (x_2C:Nat) (x_3:ByteArray) (x_4:Option Addr) (x_4N:Nat) (x_4C:Nat) (deep:Int) {w:World}{R:Ending→World→Prop} (h:F120 l x_0 x_1 x_2 x_2N x_2C x_3 x_4 x_4N x_4C deep w R):Calls Tryz.prog 120 #[(.pointer l),(.agg #[(.int .i64 x_0),(.string x_1),(.slice x_2 x_2N x_2C),(.string x_3),(.slice x_4 x_4N x_4C)]),(.int .i64 deep)] w R :=
 vc_calls (pl:=⟨60,⟨[]⟩,[(3,⟨[],[(6,20)]⟩)],[(11,⟨[(47,(.s (.int .i64)))],[(6,11),(47,60)]⟩)]⟩) Tryz.func120 (by kernel_rfl) (by kernel_rfl) (by kernel_rfl) (Eq.mp (by kernel_rfl) h)
def F236 (n:Option Addr) (name:ByteArray) (e:World) (R:Ending→World→Prop):Prop :=
 NonNil n fun p7 =>
 LdSl (e.cell? (p7.add 5)) fun f d c =>
 Calls Tryz.prog 242 #[(.slice f d c),(.string name),(.func (.func 243) #[] #[])] e (post R fun v w1 =>
 ∃(b:Int) (a:Bool),v=(.tuple #[(.int .i64 b),(.bool a)]) ∧
 R (.returned (.tuple #[(.int .i64 b),(.bool a)])) w1)
theorem ok236 (n:Option Addr) (name:ByteArray) {w:World}{R:Ending→World→Prop} (h:F236 n name w R):Calls Tryz.prog 236 #[(.pointer n),(.string name)] w R :=
 vc_calls (pl:=⟨14,⟨[]⟩,[],[]⟩) Tryz.func236 (by kernel_rfl) (by kernel_rfl) (by kernel_rfl) (Eq.mp (by kernel_rfl) h)
def F243 (a_0:ByteArray) (a_1:ByteArray) (s:ByteArray) (c:World) (R:Ending→World→Prop):Prop :=
 Al c #[(.string a_0),(.string a_1)] 205 fun a w1 =>
 LdStr (w1.cell? a) fun e =>
 Calls Tryz.prog 93 #[(.string e),(.string s)] w1 (post R fun v b =>
 ∃(d:Int),v=(.int .i64 d) ∧
 R (.returned (.int .i64 d)) b)
theorem ok243 (a_0:ByteArray) (a_1:ByteArray) (s:ByteArray) {w:World}{R:Ending→World→Prop} (h:F243 a_0 a_1 s w R):Calls Tryz.prog 243 #[(.agg #[(.string a_0),(.string a_1)]),(.string s)] w R :=
 vc_calls (pl:=⟨9,⟨[]⟩,[],[]⟩) Tryz.func243 (by kernel_rfl) (by kernel_rfl) (by kernel_rfl) (Eq.mp (by kernel_rfl) h)
def F239_l3 (g:Option Addr) (e:Nat) (L3:Int→Int→World→Prop) (most:Int) (f:Int) (d:World) (R:Ending→World→Prop):Prop :=
 Br (decide (f < ((e:Nat):Int)))
 (IdxA g e f 1 fun b =>
 LdP (d.cell? b) fun a =>
 Calls Tryz.prog 239 #[(.pointer a)] d (post R fun v w1 =>
 ∃(c:Int),v=(.int .i64 c) ∧
 InR .i64 (f+(1:Int))∧L3 (if c > most then c else most) (f+(1:Int)) w1))
 (InR .i64 (most+(1:Int))∧R (.returned (.int .i64 (most+(1:Int)))) d)
def F239 (n:Option Addr) (d:World) (R:Ending→World→Prop):Prop :=
 NonNil n fun p7 =>
 LdSl (d.cell? (p7.add 8)) fun e a b =>
 ∃(I:Int→Int→World→Prop) (m:Int→Int→World→Nat),I (0:Int) (0:Int) d ∧
 ∀(most:Int) (c:Int) (w1:World),I most c w1→F239_l3 e a (fun most' c' w2=>I most' c' w2∧m most' c' w2 < m most c w1) most c w1 R
theorem ok239 (n:Option Addr) {w:World}{R:Ending→World→Prop} (h:F239 n w R):Calls Tryz.prog 239 #[(.pointer n)] w R :=
 vc_calls (pl:=⟨22,⟨[]⟩,[],[(3,⟨[(3,(.s (.int .i64))),(11,(.s (.int .i64)))],[(3,6),(11,20)]⟩)]⟩) Tryz.func239 (by kernel_rfl) (by kernel_rfl) (by kernel_rfl) (Eq.mp (by kernel_rfl) h)
def F111 (n:Option Addr) (b:World) (R:Ending→World→Prop):Prop :=
 Br (n).isNone
 (R (.returned (.int .u64 0)) b)
 (Dr b fun w1 =>
 NonNil n fun p6 =>
 LdI .u32 (w1.cell? (p6.add 1)) fun c =>
 InR .u64 (c)∧InR .u64 ((c)*(2 ^ (min ((32:Int)).toNat 64)))∧NonNil n fun p12 =>
 LdI .u32 (w1.cell? p12) fun a =>
 InR .u64 (a)∧R (.returned (.int .u64 (bOr .u64 ((c)*(2 ^ (min ((32:Int)).toNat 64))) (a)))) w1)
theorem ok111 (n:Option Addr) {w:World}{R:Ending→World→Prop} (h:F111 n w R):Calls Tryz.prog 111 #[(.pointer n)] w R :=
 vc_calls (pl:=⟨17,⟨[]⟩,[],[]⟩) Tryz.func111 (by kernel_rfl) (by kernel_rfl) (by kernel_rfl) (Eq.mp (by kernel_rfl) h)
def F66 (n:Option Addr) (r:World) (R:Ending→World→Prop):Prop :=
 Al r #[(.int .i64 0),(.string (ByteArray.mk #[])),(.slice none 0 0),(.string (ByteArray.mk #[])),(.slice none 0 0)] 84 fun g2 w1 =>
 ∃S:World→Prop,S w1.drew∧NonNil n fun p4 =>
 ∃(s:Int),Held S (p4.add 3) (.int .i64 s)∧NonNil n fun p8 =>
 ∃(q:ByteArray),Held S (p8.add 4) (.string q)∧NonNil n fun p12 =>
 ∃(m:Option Addr) (b:Nat) (j:Nat),Held S (p12.add 5) (.slice m b j)∧NonNil n fun p17 =>
 ∃(k:ByteArray),Held S (p17.add 6) (.string k)∧Calls Tryz.prog 109 #[(.slice m b j)] w1.drew (post R fun v d =>
 ∃(p:Option Addr) (e:Nat) (c:Nat),v=(.slice p e c) ∧
 S d∧St d g2 (.int .i64 s) fun f =>
 St f (g2.add 1) (.string q) fun g =>
 St g (g2.add 2) (.slice p e c) fun a =>
 St a (g2.add 3) (.string k) fun i =>
 St i (g2.add 4) (.slice none 0 0) fun h =>
 LdI .i64 (h.cell? g2) fun res0_0 =>
 LdStr (h.cell? (g2.add 1)) fun res0_1 =>
 LdSl (h.cell? (g2.add 2)) fun res0_2 res0_2N res0_2C =>
 LdStr (h.cell? (g2.add 3)) fun res0_3 =>
 LdSl (h.cell? (g2.add 4)) fun res0_4 res0_4N res0_4C =>
 R (.returned (.agg #[(.int .i64 res0_0),(.string res0_1),(.slice res0_2 res0_2N res0_2C),(.string res0_3),(.slice res0_4 res0_4N res0_4C)])) h)
theorem ok66 (n:Option Addr) {w:World}{R:Ending→World→Prop} (h:F66 n w R):Calls Tryz.prog 66 #[(.pointer n)] w R :=
 vc_calls (pl:=⟨21,⟨[]⟩,[],[]⟩) Tryz.func66 (by kernel_rfl) (by kernel_rfl) (by kernel_rfl) (Eq.mp (by kernel_rfl) h)
def F238_j3 (o:Option Addr) (n2:Option Addr) (a:World) (R:Ending→World→Prop):Prop :=
 PtrOk a n2 o∧R (.returned (.bool (decide (n2=o)))) a
def F238_j2 (L1:Option Addr→World→Prop) (n2:Option Addr) (a:World) (R:Ending→World→Prop):Prop :=
 NonNil n2 fun p13 =>
 LdP (a.cell? (p13.add 7)) fun b =>
 L1 b a
def F238_l1 (o:Option Addr) (J3:Option Addr→World→Prop) (L1:Option Addr→World→Prop) (n2:Option Addr) (a:World) (R:Ending→World→Prop):Prop :=
 ∃J2:World→Prop,(∀ (w1:World),J2 w1→F238_j2 L1 n2 w1 R) ∧
 (Br (!(n2).isNone)
 (PtrOk a n2 o∧Br (!(decide (n2=o)))
 (J2 a)
 (J3 n2 a))
 (J3 n2 a))
def F238 (n:Option Addr) (o:Option Addr) (a:World) (R:Ending→World→Prop):Prop :=
 ∃J3:Option Addr→World→Prop,(∀(n2:Option Addr) (w1:World),J3 n2 w1→F238_j3 o n2 w1 R) ∧
 (∃(I:Option Addr→World→Prop) (m:Option Addr→World→Nat),I n a ∧
 ∀(n2:Option Addr) (w1:World),I n2 w1→F238_l1 o J3 (fun n2' w2=>I n2' w2∧m n2' w2 < m n2 w1) n2 w1 R)
theorem ok238 (n:Option Addr) (o:Option Addr) {w:World}{R:Ending→World→Prop} (h:F238 n o w R):Calls Tryz.prog 238 #[(.pointer n),(.pointer o)] w R :=
 vc_calls (pl:=⟨19,⟨[]⟩,[(2,⟨[],[(5,12)]⟩),(3,⟨[(0,(.s .ptr))],[(0,1),(5,16)]⟩)],[(1,⟨[(0,(.s .ptr))],[(0,1),(5,16)]⟩)]⟩) Tryz.func238 (by kernel_rfl) (by kernel_rfl) (by kernel_rfl) (Eq.mp (by kernel_rfl) h)
def F96_l2 (l:Option Addr) (lN:Nat) (L2:Option Addr→Nat→Nat→Int→World→Prop) (out2:Option Addr) (outN2:Nat) (outC2:Nat) (t:Int) (p:World) (R:Ending→World→Prop):Prop :=
 Br (decide (t < ((lN:Nat):Int)))
 (IdxA l lN t 1 fun q =>
 LdP (p.cell? q) fun k =>
 ∃S:World→Prop,S p.drew∧NonNil k fun p14 =>
 ∃(s:Option Addr) (f:Nat) (e:Nat),Held S (p14.add 8) (.slice s f e)∧Calls Tryz.prog 111 #[(.pointer k)] p.drew (post R fun v j =>
 ∃(m:Int),v=(.int .u64 m) ∧
 S j∧Al j #[(.int .u64 m)] 65 fun g20 i =>
 S i∧Raw Tryz.prog (Builtin.append_ #[23,23] 23 #[(.slice out2 outN2 outC2),(.slice (some g20) 1 1)]) i fun v2 c =>
 ∃(n:Option Addr) (b:Nat) (g:Nat),v2=(.slice n b g) ∧
 S c∧Calls Tryz.prog 96 #[(.slice s f e),(.slice n b g)] c (post R fun v3 d =>
 ∃(r:Option Addr) (h:Nat) (a:Nat),v3=(.slice r h a) ∧
 InR .i64 (t+(1:Int))∧L2 r h a (t+(1:Int)) d)))
 (R (.returned (.slice out2 outN2 outC2)) p)
def F96 (l:Option Addr) (lN:Nat) (lC:Nat) (out:Option Addr) (outN:Nat) (outC:Nat) (a:World) (R:Ending→World→Prop):Prop :=
 ∃(I:Option Addr→Nat→Nat→Int→World→Prop) (m:Option Addr→Nat→Nat→Int→World→Nat),I out outN outC (0:Int) a ∧
 ∀(out2:Option Addr) (outN2:Nat) (outC2:Nat) (b:Int) (w1:World),I out2 outN2 outC2 b w1→F96_l2 l lN (fun out2' outN2' outC2' b' w2=>I out2' outN2' outC2' b' w2∧m out2' outN2' outC2' b' w2 < m out2 outN2 outC2 b w1) out2 outN2 outC2 b w1 R
theorem ok96 (l:Option Addr) (lN:Nat) (lC:Nat) (out:Option Addr) (outN:Nat) (outC:Nat) {w:World}{R:Ending→World→Prop} (h:F96 l lN lC out outN outC w R):Calls Tryz.prog 96 #[(.slice l lN lC),(.slice out outN outC)] w R :=
 vc_calls (pl:=⟨25,⟨[]⟩,[],[(2,⟨[(1,(.s .slice)),(9,(.s (.int .i64)))],[(1,7),(9,24)]⟩)]⟩) Tryz.func96 (by kernel_rfl) (by kernel_rfl) (by kernel_rfl) (Eq.mp (by kernel_rfl) h)
def F186_j8 (L4:Int→World→Prop) (e:Int) (a:Addr) (g:World) (R:Ending→World→Prop):Prop :=
 LdStr (g.cell? (a.add 1)) fun f =>
 Calls Tryz.prog 67 #[(.string f)] g (post R fun v d =>
 ∃(c:Int) (b:Int),v=(.tuple #[(.int .i64 c),(.int .i64 b)]) ∧
 Br (b != (0:Int))
 (R (.returned (.int .i64 b)) d)
 (InR .i64 (e+(1:Int))∧L4 (e+(1:Int)) d))
def F186_l4 (l:Option Addr) (lN:Nat) (L4:Int→World→Prop) (h:Int) (m:World) (R:Ending→World→Prop):Prop :=
 Br (decide (h < ((lN:Nat):Int)))
 (IdxA l lN h 2 fun i =>
 LdStr (m.cell? i) fun b =>
 LdStr (m.cell? (i.add 1)) fun c =>
 Al m #[(.string (ByteArray.mk #[])),(.string (ByteArray.mk #[]))] 205 fun a w1 =>
 St w1 a (.string b) fun g =>
 St g (a.add 1) (.string c) fun f =>
 ∃J8:World→Prop,(∀ (d:World),J8 d→F186_j8 L4 h a d R) ∧
 (∃S:World→Prop,S f.drew∧∃(q:ByteArray),Held S a (.string q)∧Calls Tryz.prog 185 #[(.string q)] f.drew (post R fun v e =>
 ∃(j:Bool),v=(.bool j) ∧
 S e∧Br (!j)
 (R (.returned (.int .i64 6)) e)
 (Br (decide (h > (0:Int)))
 (∃(k:ByteArray),Held S a (.string k)∧InR .i64 (h-(1:Int))∧IdxA l lN (h-(1:Int)) 2 fun n =>
 ∃(p:ByteArray),Held S n (.string p)∧Br ((Op.bytesLess k.toList p.toList) || (k.toList == p.toList))
 (R (.returned (.int .i64 6)) e)
 (J8 e))
 (J8 e)))))
 (R (.returned (.int .i64 0)) m)
def F186 (l:Option Addr) (lN:Nat) (lC:Nat) (b:World) (R:Ending→World→Prop):Prop :=
 Br (decide (((lN:Nat):Int) > (32:Int)))
 (R (.returned (.int .i64 2)) b)
 (∃(I:Int→World→Prop) (m:Int→World→Nat),I (0:Int) b ∧
 ∀(a:Int) (w1:World),I a w1→F186_l4 l lN (fun a' w2=>I a' w2∧m a' w2 < m a w1) a w1 R)
theorem ok186 (l:Option Addr) (lN:Nat) (lC:Nat) {w:World}{R:Ending→World→Prop} (h:F186 l lN lC w R):Calls Tryz.prog 186 #[(.slice l lN lC)] w R :=
 vc_calls (pl:=⟨46,⟨[]⟩,[(8,⟨[],[(2,3),(17,36)]⟩)],[(4,⟨[(12,(.s (.int .i64)))],[(2,7),(12,46)]⟩)]⟩) Tryz.func186 (by kernel_rfl) (by kernel_rfl) (by kernel_rfl) (Eq.mp (by kernel_rfl) h)
def F115_l3 (l:Option Addr) (lN:Nat) (L3:Option Addr→Nat→Nat→Int→World→Prop) (out:Option Addr) (outN:Nat) (outC:Nat) (k:Int) (j:World) (R:Ending→World→Prop):Prop :=
 Br (decide (k < ((lN:Nat):Int)))
 (IdxA l lN k 1 fun h =>
 LdP (j.cell? h) fun g =>
 Calls Tryz.prog 111 #[(.pointer g)] j (post R fun v e =>
 ∃(i:Int),v=(.int .u64 i) ∧
 Al e #[(.int .u64 i)] 65 fun g18 d =>
 Raw Tryz.prog (Builtin.append_ #[23,23] 23 #[(.slice out outN outC),(.slice (some g18) 1 1)]) d fun v2 b =>
 ∃(f:Option Addr) (a:Nat) (c:Nat),v2=(.slice f a c) ∧
 InR .i64 (k+(1:Int))∧L3 f a c (k+(1:Int)) b))
 (R (.returned (.slice out outN outC)) j)
def F115 (l:Option Addr) (lN:Nat) (lC:Nat) (c:World) (R:Ending→World→Prop):Prop :=
 0≤(0:Int)∧(0:Int)≤((lN:Nat):Int)∧((8:Nat):Int)*((lN:Nat):Int)≤281474976710656∧Al c (zrow #[(.int .u64 0)] ((((lN:Nat):Int)).toNat*1)) 65 fun g8 w1 =>
 ∃(I:Option Addr→Nat→Nat→Int→World→Prop) (m:Option Addr→Nat→Nat→Int→World→Nat),I (some g8) ((0:Int)).toNat (((lN:Nat):Int)).toNat (0:Int) w1 ∧
 ∀(out:Option Addr) (outN:Nat) (outC:Nat) (b:Int) (a:World),I out outN outC b a→F115_l3 l lN (fun out' outN' outC' b' w2=>I out' outN' outC' b' w2∧m out' outN' outC' b' w2 < m out outN outC b a) out outN outC b a R
theorem ok115 (l:Option Addr) (lN:Nat) (lC:Nat) {w:World}{R:Ending→World→Prop} (h:F115 l lN lC w R):Calls Tryz.prog 115 #[(.slice l lN lC)] w R :=
 vc_calls (pl:=⟨22,⟨[]⟩,[],[(3,⟨[(3,(.s .slice)),(11,(.s (.int .i64)))],[(3,6),(11,21)]⟩)]⟩) Tryz.func115 (by kernel_rfl) (by kernel_rfl) (by kernel_rfl) (Eq.mp (by kernel_rfl) h)
def F108_l2 (L2:Option Addr→Int→World→Prop) (n2:Option Addr) (i:Int) (a:World) (R:Ending→World→Prop):Prop :=
 Br (!(n2).isNone)
 (InR .i64 (i+(1:Int))∧NonNil n2 fun p7 =>
 LdP (a.cell? (p7.add 7)) fun b =>
 L2 b (i+(1:Int)) a)
 (R (.returned (.int .i64 i)) a)
def F108 (n:Option Addr) (a:World) (R:Ending→World→Prop):Prop :=
 ∃(I:Option Addr→Int→World→Prop) (m:Option Addr→Int→World→Nat),I n ((-1):Int) a ∧
 ∀(n2:Option Addr) (i:Int) (w1:World),I n2 i w1→F108_l2 (fun n2' i' w2=>I n2' i' w2∧m n2' i' w2 < m n2 i w1) n2 i w1 R
theorem ok108 (n:Option Addr) {w:World}{R:Ending→World→Prop} (h:F108 n w R):Calls Tryz.prog 108 #[(.pointer n)] w R :=
 vc_calls (pl:=⟨13,⟨[]⟩,[],[(2,⟨[(0,(.s .ptr)),(3,(.s (.int .i64)))],[(0,12)]⟩)]⟩) Tryz.func108 (by kernel_rfl) (by kernel_rfl) (by kernel_rfl) (Eq.mp (by kernel_rfl) h)
def F152 (x_0:Int) (x_1:ByteArray) (x_2:Option Addr) (x_2N:Nat) (x_2C:Nat) (x_3:ByteArray) (x_4:Option Addr) (x_4N:Nat) (x_4C:Nat) (m:World) (R:Ending→World→Prop):Prop :=
 Al m #[(.int .i64 x_0),(.string x_1),(.slice x_2 x_2N x_2C),(.string x_3),(.slice x_4 x_4N x_4C)] 84 fun g1 w1 =>
 LdI .i64 (w1.cell? g1) fun n =>
 Br (n == (1:Int))
 (LdStr (w1.cell? (g1.add 1)) fun k =>
 Calls Tryz.prog 185 #[(.string k)] w1 (post R fun v f =>
 ∃(j:Bool),v=(.bool j) ∧
 Br (!j)
 (R (.returned (.int .i64 6)) f)
 (LdSl (f.cell? (g1.add 2)) fun g d c =>
 Calls Tryz.prog 186 #[(.slice g d c)] f (post R fun v2 e =>
 ∃(h:Int),v2=(.int .i64 h) ∧
 R (.returned (.int .i64 h)) e))))
 (Br (n == (2:Int))
 (LdStr (w1.cell? (g1.add 3)) fun i =>
 Calls Tryz.prog 67 #[(.string i)] w1 (post R fun v f =>
 ∃(b:Int) (a:Int),v=(.tuple #[(.int .i64 b),(.int .i64 a)]) ∧
 R (.returned (.int .i64 a)) f))
 (R (.returned (.int .i64 1)) w1))
theorem ok152 (x_0:Int) (x_1:ByteArray) (x_2:Option Addr) (x_2N:Nat) (x_2C:Nat) (x_3:ByteArray) (x_4:Option Addr) (x_4N:Nat) (x_4C:Nat) {w:World}{R:Ending→World→Prop} (h:F152 x_0 x_1 x_2 x_2N x_2C x_3 x_4 x_4N x_4C w R):Calls Tryz.prog 152 #[(.agg #[(.int .i64 x_0),(.string x_1),(.slice x_2 x_2N x_2C),(.string x_3),(.slice x_4 x_4N x_4C)])] w R :=
 vc_calls (pl:=⟨25,⟨[]⟩,[],[]⟩) Tryz.func152 (by kernel_rfl) (by kernel_rfl) (by kernel_rfl) (Eq.mp (by kernel_rfl) h)
def F119 (where_:Int) (at_:Int) (a:World) (R:Ending→World→Prop):Prop :=
 Br (decide (where_≥(1:Int)))
 (Br (decide (where_≤(4:Int)))
 (Br (at_ != (0:Int))
 (R (.returned (.bool true)) a)
 (R (.returned (.bool (decide (where_≤(2:Int))))) a))
 (R (.returned (.bool false)) a))
 (R (.returned (.bool false)) a)
theorem ok119 (where_:Int) (at_:Int) {w:World}{R:Ending→World→Prop} (h:F119 where_ at_ w R):Calls Tryz.prog 119 #[(.int .i64 where_),(.int .u64 at_)] w R :=
 vc_calls (pl:=⟨19,⟨[]⟩,[],[]⟩) Tryz.func119 (by kernel_rfl) (by kernel_rfl) (by kernel_rfl) (Eq.mp (by kernel_rfl) h)
def F242_l3 (x:Option Addr) (xN:Nat) (target:ByteArray) (cmp:Value) (L3:Int→Int→World→Prop) (i:Int) (j:Int) (g:World) (R:Ending→World→Prop):Prop :=
 Br (decide (i < j))
 (InR .i64 (i+j)∧InR .u64 ((i+j))∧InR .i64 ((((i+j)).fdiv (2 ^ (min ((1:Int)).toNat 64))))∧IdxA x xN ((((i+j)).fdiv (2 ^ (min ((1:Int)).toNat 64)))) 2 fun e =>
 LdStr (g.cell? e) fun d =>
 LdStr (g.cell? (e.add 1)) fun c =>
 CallV Tryz.prog cmp #[(.agg #[(.string d),(.string c)]),(.string target)] g R (fun v w1 =>
 ∃(h:Int),v=(.int .i64 h) ∧
 Br (decide (h < (0:Int)))
 (InR .i64 (((((i+j)).fdiv (2 ^ (min ((1:Int)).toNat 64))))+(1:Int))∧L3 (((((i+j)).fdiv (2 ^ (min ((1:Int)).toNat 64))))+(1:Int)) j w1)
 (L3 i ((((i+j)).fdiv (2 ^ (min ((1:Int)).toNat 64)))) w1)))
 (Br (decide (i < ((xN:Nat):Int)))
 (IdxA x xN i 2 fun f =>
 LdStr (g.cell? f) fun b =>
 LdStr (g.cell? (f.add 1)) fun a =>
 CallV Tryz.prog cmp #[(.agg #[(.string b),(.string a)]),(.string target)] g R (fun v w1 =>
 ∃(k:Int),v=(.int .i64 k) ∧
 R (.returned (.tuple #[(.int .i64 i),(.bool (k == (0:Int)))])) w1))
 (R (.returned (.tuple #[(.int .i64 i),(.bool false)])) g))
def F242 (x:Option Addr) (xN:Nat) (xC:Nat) (target:ByteArray) (cmp:Value) (a:World) (R:Ending→World→Prop):Prop :=
 ∃(I:Int→Int→World→Prop) (m:Int→Int→World→Nat),I (0:Int) ((xN:Nat):Int) a ∧
 ∀(i:Int) (j:Int) (w1:World),I i j w1→F242_l3 x xN target cmp (fun i' j' w2=>I i' j' w2∧m i' j' w2 < m i j w1) i j w1 R
theorem ok242 (x:Option Addr) (xN:Nat) (xC:Nat) (target:ByteArray) (cmp:Value) {w:World}{R:Ending→World→Prop} (h:F242 x xN xC target cmp w R):Calls Tryz.prog 242 #[(.slice x xN xC),(.string target),cmp] w R :=
 vc_calls (pl:=⟨49,⟨[]⟩,[],[(3,⟨[(9,(.s (.int .i64))),(10,(.s (.int .i64)))],[(9,35)]⟩)]⟩) Tryz.func242 (by kernel_rfl) (by kernel_rfl) (by kernel_rfl) (Eq.mp (by kernel_rfl) h)
def F109 (s:Option Addr) (sN:Nat) (sC:Nat) (d:World) (R:Ending→World→Prop):Prop :=
 Br (s).isNone
 (R (.returned (.slice none 0 0)) d)
 (Al d #[] 205 fun g5 w1 =>
 Raw Tryz.prog (Builtin.append_ #[81,81] 81 #[(.slice (some g5) 0 0),(.slice s sN sC)]) w1 fun v a =>
 ∃(e:Option Addr) (c:Nat) (b:Nat),v=(.slice e c b) ∧
 R (.returned (.slice e c b)) a)
theorem ok109 (s:Option Addr) (sN:Nat) (sC:Nat) {w:World}{R:Ending→World→Prop} (h:F109 s sN sC w R):Calls Tryz.prog 109 #[(.slice s sN sC)] w R :=
 vc_calls (pl:=⟨8,⟨[]⟩,[],[]⟩) Tryz.func109 (by kernel_rfl) (by kernel_rfl) (by kernel_rfl) (Eq.mp (by kernel_rfl) h)
def F241 (s:Option Addr) (sN:Nat) (sC:Nat) (i:Int) (j:Int) (f:World) (R:Ending→World→Prop):Prop :=
 SlB i j ((sN:Nat):Int)
 (((sN:Nat):Int)≤((sC:Nat):Int)∧Br (i == j)
 (R (.returned (.slice s sN sC)) f)
 (∃S:World→Prop,S f.drew∧SlB 0 i ((sC:Nat):Int)
 (SlB j ((sN:Nat):Int) ((sC:Nat):Int)
 (Raw Tryz.prog (Builtin.append_ #[96,96] 96 #[(.slice s (i).toNat sC),(.slice (SlA s sC (j).toNat 1) ((((sN:Nat):Int)).toNat-(j).toNat) (sC-(j).toNat))]) f.drew fun v d =>
 ∃(e:Option Addr) (a:Nat) (b:Nat),v=(.slice e a b) ∧
 SlB ((a:Nat):Int) ((sN:Nat):Int) ((b:Nat):Int)
 (Raw Tryz.prog (Builtin.clear_ #[96] 0 #[(.slice (SlA e b (((a:Nat):Int)).toNat 1) ((((sN:Nat):Int)).toNat-(((a:Nat):Int)).toNat) (b-(((a:Nat):Int)).toNat))]) d fun v2 c =>
 R (.returned (.slice e a b)) c)))))
theorem ok241 (s:Option Addr) (sN:Nat) (sC:Nat) (i:Int) (j:Int) {w:World}{R:Ending→World→Prop} (h:F241 s sN sC i j w R):Calls Tryz.prog 241 #[(.slice s sN sC),(.int .i64 i),(.int .i64 j)] w R :=
 vc_calls (pl:=⟨33,⟨[]⟩,[],[]⟩) Tryz.func241 (by kernel_rfl) (by kernel_rfl) (by kernel_rfl) (Eq.mp (by kernel_rfl) h)
def F237 (s:Option Addr) (sN:Nat) (sC:Nat) (i:Int) (j:Int) (f:World) (R:Ending→World→Prop):Prop :=
 SlB i j ((sN:Nat):Int)
 (((sN:Nat):Int)≤((sC:Nat):Int)∧Br (i == j)
 (R (.returned (.slice s sN sC)) f)
 (∃S:World→Prop,S f.drew∧SlB 0 i ((sC:Nat):Int)
 (SlB j ((sN:Nat):Int) ((sC:Nat):Int)
 (Raw Tryz.prog (Builtin.append_ #[81,81] 81 #[(.slice s (i).toNat sC),(.slice (SlA s sC (j).toNat 2) ((((sN:Nat):Int)).toNat-(j).toNat) (sC-(j).toNat))]) f.drew fun v d =>
 ∃(e:Option Addr) (a:Nat) (b:Nat),v=(.slice e a b) ∧
 SlB ((a:Nat):Int) ((sN:Nat):Int) ((b:Nat):Int)
 (Raw Tryz.prog (Builtin.clear_ #[81] 0 #[(.slice (SlA e b (((a:Nat):Int)).toNat 2) ((((sN:Nat):Int)).toNat-(((a:Nat):Int)).toNat) (b-(((a:Nat):Int)).toNat))]) d fun v2 c =>
 R (.returned (.slice e a b)) c)))))
theorem ok237 (s:Option Addr) (sN:Nat) (sC:Nat) (i:Int) (j:Int) {w:World}{R:Ending→World→Prop} (h:F237 s sN sC i j w R):Calls Tryz.prog 237 #[(.slice s sN sC),(.int .i64 i),(.int .i64 j)] w R :=
 vc_calls (pl:=⟨33,⟨[]⟩,[],[]⟩) Tryz.func237 (by kernel_rfl) (by kernel_rfl) (by kernel_rfl) (Eq.mp (by kernel_rfl) h)
def F160_l2 (s:Option Addr) (sN:Nat) (v:Option Addr) (L2:Int→World→Prop) (d:Int) (a:World) (R:Ending→World→Prop):Prop :=
 Br (decide (d < ((sN:Nat):Int)))
 (IdxA s sN d 1 fun b =>
 LdP (a.cell? b) fun c =>
 PtrOk a v c∧Br (decide (v=c))
 (R (.returned (.int .i64 d)) a)
 (InR .i64 (d+(1:Int))∧L2 (d+(1:Int)) a))
 (R (.returned (.int .i64 (-1))) a)
def F160 (s:Option Addr) (sN:Nat) (sC:Nat) (v:Option Addr) (a:World) (R:Ending→World→Prop):Prop :=
 ∃(I:Int→World→Prop) (m:Int→World→Nat),I (0:Int) a ∧
 ∀(b:Int) (w1:World),I b w1→F160_l2 s sN v (fun b' w2=>I b' w2∧m b' w2 < m b w1) b w1 R
theorem ok160 (s:Option Addr) (sN:Nat) (sC:Nat) (v:Option Addr) {w:World}{R:Ending→World→Prop} (h:F160 s sN sC v w R):Calls Tryz.prog 160 #[(.slice s sN sC),(.pointer v)] w R :=
 vc_calls (pl:=⟨19,⟨[]⟩,[],[(2,⟨[(8,(.s (.int .i64)))],[(4,6),(8,19)]⟩)]⟩) Tryz.func160 (by kernel_rfl) (by kernel_rfl) (by kernel_rfl) (Eq.mp (by kernel_rfl) h)
def F161 (s:Option Addr) (sN:Nat) (sC:Nat) (i:Int) (v:Option Addr) (vN:Nat) (vC:Nat) (t:World) (R:Ending→World→Prop):Prop :=
 SlB i ((sN:Nat):Int) ((sC:Nat):Int)
 (Br (((vN:Nat):Int) == (0:Int))
 (R (.returned (.slice s sN sC)) t)
 (Br (i == ((sN:Nat):Int))
 (Raw Tryz.prog (Builtin.append_ #[96,96] 96 #[(.slice s sN sC),(.slice v vN vC)]) t fun v2 w1 =>
 ∃(j:Option Addr) (c:Nat) (b:Nat),v2=(.slice j c b) ∧
 R (.returned (.slice j c b)) w1)
 (InR .i64 (((sN:Nat):Int)+((vN:Nat):Int))∧Br (decide ((((sN:Nat):Int)+((vN:Nat):Int)) > ((sC:Nat):Int)))
 (SlB 0 i ((sC:Nat):Int)
 (InR .i64 (((sN:Nat):Int)+((vN:Nat):Int))∧InR .i64 ((((sN:Nat):Int)+((vN:Nat):Int))-i)∧Raw Tryz.prog (Builtin.append_ #[96,3] 96 #[(.slice s (i).toNat sC),(.int .i64 ((((sN:Nat):Int)+((vN:Nat):Int))-i))]) t fun v2 w1 =>
 ∃(n:Option Addr) (f:Nat) (a:Nat),v2=(.slice n f a) ∧
 SlB i ((f:Nat):Int) ((a:Nat):Int)
 (Raw Tryz.prog (Builtin.copy_ #[96,96] 3 #[(.slice (SlA n a (i).toNat 1) ((((f:Nat):Int)).toNat-(i).toNat) (a-(i).toNat)),(.slice v vN vC)]) w1 fun v3 g =>
 ∃(r:Int),v3=(.int .i64 r) ∧
 ∃S:World→Prop,S g.drew∧InR .i64 (i+((vN:Nat):Int))∧SlB (i+((vN:Nat):Int)) ((f:Nat):Int) ((a:Nat):Int)
 (SlB i ((sN:Nat):Int) ((sC:Nat):Int)
 (Raw Tryz.prog (Builtin.copy_ #[96,96] 3 #[(.slice (SlA n a ((i+((vN:Nat):Int))).toNat 1) ((((f:Nat):Int)).toNat-((i+((vN:Nat):Int))).toNat) (a-((i+((vN:Nat):Int))).toNat)),(.slice (SlA s sC (i).toNat 1) ((((sN:Nat):Int)).toNat-(i).toNat) (sC-(i).toNat))]) g.drew fun v4 d =>
 ∃(k:Int),v4=(.int .i64 k) ∧
 R (.returned (.slice n f a)) d)))))
 (InR .i64 (((sN:Nat):Int)+((vN:Nat):Int))∧SlB 0 (((sN:Nat):Int)+((vN:Nat):Int)) ((sC:Nat):Int)
 (InR .i64 (i+((vN:Nat):Int))∧SlB (i+((vN:Nat):Int)) ((((((sN:Nat):Int)+((vN:Nat):Int))).toNat:Nat):Int) ((sC:Nat):Int)
 (ByRow Tryz.prog 187 #[(.slice v vN vC),(.slice (SlA s sC ((i+((vN:Nat):Int))).toNat 1) ((((((((sN:Nat):Int)+((vN:Nat):Int))).toNat:Nat):Int)).toNat-((i+((vN:Nat):Int))).toNat) (sC-((i+((vN:Nat):Int))).toNat))] t (fun v2 w1 =>
 ∃(p:Bool),v2=(.bool p) ∧
 Br (!p)
 (∃S:World→Prop,S w1.drew∧InR .i64 (i+((vN:Nat):Int))∧SlB (i+((vN:Nat):Int)) ((((((sN:Nat):Int)+((vN:Nat):Int))).toNat:Nat):Int) ((sC:Nat):Int)
 (SlB i ((((((sN:Nat):Int)+((vN:Nat):Int))).toNat:Nat):Int) ((sC:Nat):Int)
 (Raw Tryz.prog (Builtin.copy_ #[96,96] 3 #[(.slice (SlA s sC ((i+((vN:Nat):Int))).toNat 1) ((((((((sN:Nat):Int)+((vN:Nat):Int))).toNat:Nat):Int)).toNat-((i+((vN:Nat):Int))).toNat) (sC-((i+((vN:Nat):Int))).toNat)),(.slice (SlA s sC (i).toNat 1) ((((((((sN:Nat):Int)+((vN:Nat):Int))).toNat:Nat):Int)).toNat-(i).toNat) (sC-(i).toNat))]) w1.drew fun v3 e =>
 ∃(h:Int),v3=(.int .i64 h) ∧
 SlB i ((((((sN:Nat):Int)+((vN:Nat):Int))).toNat:Nat):Int) ((sC:Nat):Int)
 (Raw Tryz.prog (Builtin.copy_ #[96,96] 3 #[(.slice (SlA s sC (i).toNat 1) ((((((((sN:Nat):Int)+((vN:Nat):Int))).toNat:Nat):Int)).toNat-(i).toNat) (sC-(i).toNat)),(.slice v vN vC)]) e fun v4 d =>
 ∃(q:Int),v4=(.int .i64 q) ∧
 R (.returned (.slice s ((((sN:Nat):Int)+((vN:Nat):Int))).toNat sC)) d))))
 (SlB ((sN:Nat):Int) ((((((sN:Nat):Int)+((vN:Nat):Int))).toNat:Nat):Int) ((sC:Nat):Int)
 (Raw Tryz.prog (Builtin.copy_ #[96,96] 3 #[(.slice (SlA s sC (((sN:Nat):Int)).toNat 1) ((((((((sN:Nat):Int)+((vN:Nat):Int))).toNat:Nat):Int)).toNat-(((sN:Nat):Int)).toNat) (sC-(((sN:Nat):Int)).toNat)),(.slice v vN vC)]) w1 fun v3 g =>
 ∃(m:Int),v3=(.int .i64 m) ∧
 SlB i ((((((sN:Nat):Int)+((vN:Nat):Int))).toNat:Nat):Int) ((sC:Nat):Int)
 (Calls Tryz.prog 188 #[(.slice (SlA s sC (i).toNat 1) ((((((((sN:Nat):Int)+((vN:Nat):Int))).toNat:Nat):Int)).toNat-(i).toNat) (sC-(i).toNat)),(.int .i64 ((vN:Nat):Int))] g (post R fun v4 e =>
 v4=(.tuple #[]) ∧
 R (.returned (.slice s ((((sN:Nat):Int)+((vN:Nat):Int))).toNat sC)) e)))))))))))
theorem ok161 (s:Option Addr) (sN:Nat) (sC:Nat) (i:Int) (v:Option Addr) (vN:Nat) (vC:Nat) {w:World}{R:Ending→World→Prop} (h:F161 s sN sC i v vN vC w R):Calls Tryz.prog 161 #[(.slice s sN sC),(.int .i64 i),(.slice v vN vC)] w R :=
 vc_calls (pl:=⟨95,⟨[]⟩,[],[]⟩) Tryz.func161 (by kernel_rfl) (by kernel_rfl) (by kernel_rfl) (Eq.mp (by kernel_rfl) h)
def F240 (s:Option Addr) (sN:Nat) (sC:Nat) (i:Int) (v:Option Addr) (vN:Nat) (vC:Nat) (t:World) (R:Ending→World→Prop):Prop :=
 SlB i ((sN:Nat):Int) ((sC:Nat):Int)
 (Br (((vN:Nat):Int) == (0:Int))
 (R (.returned (.slice s sN sC)) t)
 (Br (i == ((sN:Nat):Int))
 (Raw Tryz.prog (Builtin.append_ #[81,81] 81 #[(.slice s sN sC),(.slice v vN vC)]) t fun v2 w1 =>
 ∃(j:Option Addr) (c:Nat) (b:Nat),v2=(.slice j c b) ∧
 R (.returned (.slice j c b)) w1)
 (InR .i64 (((sN:Nat):Int)+((vN:Nat):Int))∧Br (decide ((((sN:Nat):Int)+((vN:Nat):Int)) > ((sC:Nat):Int)))
 (SlB 0 i ((sC:Nat):Int)
 (InR .i64 (((sN:Nat):Int)+((vN:Nat):Int))∧InR .i64 ((((sN:Nat):Int)+((vN:Nat):Int))-i)∧Raw Tryz.prog (Builtin.append_ #[81,3] 81 #[(.slice s (i).toNat sC),(.int .i64 ((((sN:Nat):Int)+((vN:Nat):Int))-i))]) t fun v2 w1 =>
 ∃(n:Option Addr) (f:Nat) (a:Nat),v2=(.slice n f a) ∧
 SlB i ((f:Nat):Int) ((a:Nat):Int)
 (Raw Tryz.prog (Builtin.copy_ #[81,81] 3 #[(.slice (SlA n a (i).toNat 2) ((((f:Nat):Int)).toNat-(i).toNat) (a-(i).toNat)),(.slice v vN vC)]) w1 fun v3 g =>
 ∃(r:Int),v3=(.int .i64 r) ∧
 ∃S:World→Prop,S g.drew∧InR .i64 (i+((vN:Nat):Int))∧SlB (i+((vN:Nat):Int)) ((f:Nat):Int) ((a:Nat):Int)
 (SlB i ((sN:Nat):Int) ((sC:Nat):Int)
 (Raw Tryz.prog (Builtin.copy_ #[81,81] 3 #[(.slice (SlA n a ((i+((vN:Nat):Int))).toNat 2) ((((f:Nat):Int)).toNat-((i+((vN:Nat):Int))).toNat) (a-((i+((vN:Nat):Int))).toNat)),(.slice (SlA s sC (i).toNat 2) ((((sN:Nat):Int)).toNat-(i).toNat) (sC-(i).toNat))]) g.drew fun v4 d =>
 ∃(k:Int),v4=(.int .i64 k) ∧
 R (.returned (.slice n f a)) d)))))
 (InR .i64 (((sN:Nat):Int)+((vN:Nat):Int))∧SlB 0 (((sN:Nat):Int)+((vN:Nat):Int)) ((sC:Nat):Int)
 (InR .i64 (i+((vN:Nat):Int))∧SlB (i+((vN:Nat):Int)) ((((((sN:Nat):Int)+((vN:Nat):Int))).toNat:Nat):Int) ((sC:Nat):Int)
 (ByRow Tryz.prog 244 #[(.slice v vN vC),(.slice (SlA s sC ((i+((vN:Nat):Int))).toNat 2) ((((((((sN:Nat):Int)+((vN:Nat):Int))).toNat:Nat):Int)).toNat-((i+((vN:Nat):Int))).toNat) (sC-((i+((vN:Nat):Int))).toNat))] t (fun v2 w1 =>
 ∃(p:Bool),v2=(.bool p) ∧
 Br (!p)
 (∃S:World→Prop,S w1.drew∧InR .i64 (i+((vN:Nat):Int))∧SlB (i+((vN:Nat):Int)) ((((((sN:Nat):Int)+((vN:Nat):Int))).toNat:Nat):Int) ((sC:Nat):Int)
 (SlB i ((((((sN:Nat):Int)+((vN:Nat):Int))).toNat:Nat):Int) ((sC:Nat):Int)
 (Raw Tryz.prog (Builtin.copy_ #[81,81] 3 #[(.slice (SlA s sC ((i+((vN:Nat):Int))).toNat 2) ((((((((sN:Nat):Int)+((vN:Nat):Int))).toNat:Nat):Int)).toNat-((i+((vN:Nat):Int))).toNat) (sC-((i+((vN:Nat):Int))).toNat)),(.slice (SlA s sC (i).toNat 2) ((((((((sN:Nat):Int)+((vN:Nat):Int))).toNat:Nat):Int)).toNat-(i).toNat) (sC-(i).toNat))]) w1.drew fun v3 e =>
 ∃(h:Int),v3=(.int .i64 h) ∧
 SlB i ((((((sN:Nat):Int)+((vN:Nat):Int))).toNat:Nat):Int) ((sC:Nat):Int)
 (Raw Tryz.prog (Builtin.copy_ #[81,81] 3 #[(.slice (SlA s sC (i).toNat 2) ((((((((sN:Nat):Int)+((vN:Nat):Int))).toNat:Nat):Int)).toNat-(i).toNat) (sC-(i).toNat)),(.slice v vN vC)]) e fun v4 d =>
 ∃(q:Int),v4=(.int .i64 q) ∧
 R (.returned (.slice s ((((sN:Nat):Int)+((vN:Nat):Int))).toNat sC)) d))))
 (SlB ((sN:Nat):Int) ((((((sN:Nat):Int)+((vN:Nat):Int))).toNat:Nat):Int) ((sC:Nat):Int)
 (Raw Tryz.prog (Builtin.copy_ #[81,81] 3 #[(.slice (SlA s sC (((sN:Nat):Int)).toNat 2) ((((((((sN:Nat):Int)+((vN:Nat):Int))).toNat:Nat):Int)).toNat-(((sN:Nat):Int)).toNat) (sC-(((sN:Nat):Int)).toNat)),(.slice v vN vC)]) w1 fun v3 g =>
 ∃(m:Int),v3=(.int .i64 m) ∧
 SlB i ((((((sN:Nat):Int)+((vN:Nat):Int))).toNat:Nat):Int) ((sC:Nat):Int)
 (Calls Tryz.prog 245 #[(.slice (SlA s sC (i).toNat 2) ((((((((sN:Nat):Int)+((vN:Nat):Int))).toNat:Nat):Int)).toNat-(i).toNat) (sC-(i).toNat)),(.int .i64 ((vN:Nat):Int))] g (post R fun v4 e =>
 v4=(.tuple #[]) ∧
 R (.returned (.slice s ((((sN:Nat):Int)+((vN:Nat):Int))).toNat sC)) e)))))))))))
theorem ok240 (s:Option Addr) (sN:Nat) (sC:Nat) (i:Int) (v:Option Addr) (vN:Nat) (vC:Nat) {w:World}{R:Ending→World→Prop} (h:F240 s sN sC i v vN vC w R):Calls Tryz.prog 240 #[(.slice s sN sC),(.int .i64 i),(.slice v vN vC)] w R :=
 vc_calls (pl:=⟨95,⟨[]⟩,[],[]⟩) Tryz.func240 (by kernel_rfl) (by kernel_rfl) (by kernel_rfl) (Eq.mp (by kernel_rfl) h)
set_option maxRecDepth 100000
def F47_j3 (d:Option Addr) (n:Int) (f:World) (R:Ending→World→Prop):Prop :=
 Al f #[] 65 fun g16 w1 =>
 Calls Tryz.prog 81 #[(.pointer d),(.int .u64 n),(.slice (some g16) 0 0)] w1 (post R fun v b =>
 ∃(e:Option Addr) (a:Nat) (c:Nat),v=(.slice e a c) ∧
 R (.returned (.tuple #[(.slice e a c),(.int .i64 0)])) b)
def F47 (d:Option Addr) (n:Int) (b:World) (R:Ending→World→Prop):Prop :=
 ∃J3:World→Prop,(∀ (w1:World),J3 w1→F47_j3 d n w1 R) ∧
 (Br (n != (0:Int))
 (Calls Tryz.prog 80 #[(.pointer d),(.int .u64 n)] b (post R fun v w1 =>
 ∃(a:Bool),v=(.bool a) ∧
 Br (!a)
 (R (.returned (.tuple #[(.slice none 0 0),(.int .i64 8)])) w1)
 (J3 w1)))
 (J3 b))
theorem ok47 (d:Option Addr) (n:Int) {w:World}{R:Ending→World→Prop} (h:F47 d n w R):Calls Tryz.prog 47 #[(.pointer d),(.int .u64 n)] w R :=
 vc_calls (pl:=⟨18,⟨[]⟩,[(3,⟨[],[(4,14)]⟩)],[]⟩) Tryz.func47 (by kernel_rfl) (by kernel_rfl) (by kernel_rfl) (Eq.mp (by kernel_rfl) h)
def F102_l7 (d:Option Addr) (c:Option Addr) (a:Nat) (L7:Int→World→Prop) (i:Int) (ba:World) (R:Ending→World→Prop):Prop :=
 Br (decide (i < ((a:Nat):Int)))
 (IdxA c a i 1 fun v =>
 LdI .u64 (ba.cell? v) fun u =>
 Calls Tryz.prog 82 #[(.pointer d),(.int .u64 u)] ba (post R fun v5 n =>
 ∃(aa:Int),v5=(.int .i64 aa) ∧
 ∃S:World→Prop,S n.drew∧NonNil d fun p44 =>
 ∃(da:Option Addr) (r:Nat) (p:Nat),Held S p44 (.slice da r p)∧NonNil d fun p49 =>
 ∃(y:Option Addr) (m:Nat) (q:Nat),Held S p49 (.slice y m q)∧IdxA y m aa 8 fun ca =>
 ∃(t:Int),Held S ca (.int .u32 t)∧IdxA da r aa 8 fun z =>
 St n.drew z (.int .u32 t) fun s =>
 St s (z.add 1) (.bool false) fun g =>
 St g (z.add 2) (.int .i64 0) fun e =>
 St e (z.add 3) (.string (ByteArray.mk #[])) fun k =>
 St k (z.add 4) (.slice none 0 0) fun h =>
 St h (z.add 5) (.string (ByteArray.mk #[])) fun b =>
 St b (z.add 6) (.int .u64 0) fun f =>
 St f (z.add 7) (.slice none 0 0) fun j =>
 InR .i64 (i+(1:Int))∧L7 (i+(1:Int)) j))
 (R (.returned (.int .i64 0)) ba)
def F102 (d:Option Addr) (n:Int) (w_:World) (R:Ending→World→Prop):Prop :=
 Calls Tryz.prog 80 #[(.pointer d),(.int .u64 n)] w_ (post R fun v w1 =>
 ∃(z:Bool),v=(.bool z) ∧
 Br (!z)
 (R (.returned (.int .i64 8)) w1)
 (Calls Tryz.prog 47 #[(.pointer d),(.int .u64 n)] w1 (post R fun v2 t =>
 ∃(c:Option Addr) (a:Nat) (b:Nat) (e:Int),v2=(.tuple #[(.slice c a b),(.int .i64 e)]) ∧
 Al t #[] 162 fun g20 s =>
 NonNil d fun p22 =>
 LdSl (s.cell? p22) fun y g p =>
 Raw Tryz.prog (Builtin.append_ #[22,22] 22 #[(.slice (some g20) 0 0),(.slice y g p)]) s fun v3 q =>
 ∃(u:Option Addr) (k:Nat) (h:Nat),v3=(.slice u k h) ∧
 NonNil d fun p26 =>
 St q p26 (.slice u k h) fun r =>
 Calls Tryz.prog 147 #[(.pointer d),(.int .u64 n)] r (post R fun v4 f =>
 v4=(.tuple #[]) ∧
 ∃(I:Int→World→Prop) (m:Int→World→Nat),I (0:Int) f ∧
 ∀(i:Int) (j:World),I i j→F102_l7 d c a (fun i' w2=>I i' w2∧m i' w2 < m i j) i j R))))
theorem ok102 (d:Option Addr) (n:Int) {w:World}{R:Ending→World→Prop} (h:F102 d n w R):Calls Tryz.prog 102 #[(.pointer d),(.int .u64 n)] w R :=
 vc_calls (pl:=⟨58,⟨[]⟩,[],[(7,⟨[(7,(.s (.int .i64)))],[(7,58)]⟩)]⟩) Tryz.func102 (by kernel_rfl) (by kernel_rfl) (by kernel_rfl) (Eq.mp (by kernel_rfl) h)
def F106_l6 (d:Option Addr) (name:ByteArray) (a:Int) (aa:Option Addr) (b:Nat) (f:Nat) (L6:Int→World→Prop) (k:Int) (z:World) (R:Ending→World→Prop):Prop :=
 Br (decide (k < ((b:Nat):Int)))
 (IdxA aa b k 2 fun r =>
 LdStr (z.cell? r) fun t =>
 Br (t.toList == name.toList)
 (∃S:World→Prop,S z.drew∧NonNil d fun p42 =>
 ∃(y:Option Addr) (i:Nat) (g:Nat),Held S p42 (.slice y i g)∧SlB 0 k ((f:Nat):Int)
 (InR .i64 (k+(1:Int))∧SlB (k+(1:Int)) ((b:Nat):Int) ((f:Nat):Int)
 (Al z.drew #[] 205 fun g46 j =>
 S j∧Raw Tryz.prog (Builtin.append_ #[81,81] 81 #[(.slice (some g46) 0 0),(.slice aa (k).toNat f)]) j fun v2 p =>
 ∃(s:Option Addr) (m:Nat) (q:Nat),v2=(.slice s m q) ∧
 S p∧Raw Tryz.prog (Builtin.append_ #[81,81] 81 #[(.slice s m q),(.slice (SlA aa f ((k+(1:Int))).toNat 2) ((((b:Nat):Int)).toNat-((k+(1:Int))).toNat) (f-((k+(1:Int))).toNat))]) p fun v3 c =>
 ∃(u:Option Addr) (e:Nat) (h:Nat),v3=(.slice u e h) ∧
 S c∧IdxA y i a 8 fun v =>
 St c (v.add 4) (.slice u e h) fun n =>
 R (.returned (.int .i64 0)) n)))
 (InR .i64 (k+(1:Int))∧L6 (k+(1:Int)) z))
 (R (.returned (.int .i64 35)) z)
def F106 (d:Option Addr) (n:Int) (name:ByteArray) (q:World) (R:Ending→World→Prop):Prop :=
 Calls Tryz.prog 148 #[(.pointer d),(.int .u64 n),(.int .i64 1)] q (post R fun v w1 =>
 ∃(b:Int) (a:Int),v=(.tuple #[(.int .i64 b),(.int .i64 a)]) ∧
 Br (a != (0:Int))
 (R (.returned (.int .i64 a)) w1)
 (NonNil d fun p21 =>
 LdSl (w1.cell? p21) fun j h g =>
 IdxA j h b 8 fun i =>
 LdSl (w1.cell? (i.add 4)) fun p c f =>
 ∃(I:Int→World→Prop) (m:Int→World→Nat),I (0:Int) w1 ∧
 ∀(k:Int) (e:World),I k e→F106_l6 d name b p c f (fun k' w2=>I k' w2∧m k' w2 < m k e) k e R))
theorem ok106 (d:Option Addr) (n:Int) (name:ByteArray) {w:World}{R:Ending→World→Prop} (h:F106 d n name w R):Calls Tryz.prog 106 #[(.pointer d),(.int .u64 n),(.string name)] w R :=
 vc_calls (pl:=⟨58,⟨[]⟩,[],[(6,⟨[(10,(.s (.int .i64)))],[(6,7),(10,58)]⟩)]⟩) Tryz.func106 (by kernel_rfl) (by kernel_rfl) (by kernel_rfl) (Eq.mp (by kernel_rfl) h)
def F48 (d:Option Addr) (n:Int) (w_:World) (R:Ending→World→Prop):Prop :=
 Al w_ #[(.int .i64 0),(.string (ByteArray.mk #[])),(.slice none 0 0),(.string (ByteArray.mk #[])),(.slice none 0 0)] 84 fun g4 w1 =>
 Calls Tryz.prog 82 #[(.pointer d),(.int .u64 n)] w1 (post R fun v ba =>
 ∃(ta:Int),v=(.int .i64 ta) ∧
 Br (decide (ta < (0:Int)))
 (St ba g4 (.int .i64 0) fun ia =>
 St ia (g4.add 1) (.string (ByteArray.mk #[])) fun ma =>
 St ma (g4.add 2) (.slice none 0 0) fun ca =>
 St ca (g4.add 3) (.string (ByteArray.mk #[])) fun ja =>
 St ja (g4.add 4) (.slice none 0 0) fun da =>
 LdI .i64 (da.cell? g4) fun res0_0 =>
 LdStr (da.cell? (g4.add 1)) fun res0_1 =>
 LdSl (da.cell? (g4.add 2)) fun res0_2 res0_2N res0_2C =>
 LdStr (da.cell? (g4.add 3)) fun res0_3 =>
 LdSl (da.cell? (g4.add 4)) fun res0_4 res0_4N res0_4C =>
 R (.returned (.tuple #[(.agg #[(.int .i64 res0_0),(.string res0_1),(.slice res0_2 res0_2N res0_2C),(.string res0_3),(.slice res0_4 res0_4N res0_4C)]),(.int .i64 8)])) da)
 (NonNil d fun p15 =>
 LdSl (ba.cell? p15) fun ua ga fa =>
 IdxA ua ga ta 8 fun ra =>
 LdI .u32 (ba.cell? ra) fun z =>
 LdB (ba.cell? (ra.add 1)) fun k =>
 LdI .i64 (ba.cell? (ra.add 2)) fun m =>
 LdStr (ba.cell? (ra.add 3)) fun f =>
 LdSl (ba.cell? (ra.add 4)) fun aa b c =>
 LdStr (ba.cell? (ra.add 5)) fun h =>
 LdI .u64 (ba.cell? (ra.add 6)) fun i =>
 LdSl (ba.cell? (ra.add 7)) fun t e a =>
 Al ba #[(.int .u32 0),(.bool false),(.int .i64 0),(.string (ByteArray.mk #[])),(.slice none 0 0),(.string (ByteArray.mk #[])),(.int .u64 0),(.slice none 0 0)] 162 fun s ia =>
 St ia s (.int .u32 z) fun ma =>
 St ma (s.add 1) (.bool k) fun ca =>
 St ca (s.add 2) (.int .i64 m) fun ja =>
 St ja (s.add 3) (.string f) fun da =>
 St da (s.add 4) (.slice aa b c) fun ha =>
 St ha (s.add 5) (.string h) fun ka =>
 St ka (s.add 6) (.int .u64 i) fun q =>
 St q (s.add 7) (.slice t e a) fun j =>
 LdI .i64 (j.cell? (s.add 2)) fun qa =>
 LdStr (j.cell? (s.add 3)) fun va =>
 LdSl (j.cell? (s.add 4)) fun pa na ea =>
 LdStr (j.cell? (s.add 5)) fun sa =>
 St j g4 (.int .i64 qa) fun y =>
 St y (g4.add 1) (.string va) fun r =>
 St r (g4.add 2) (.slice pa na ea) fun g =>
 St g (g4.add 3) (.string sa) fun p =>
 St p (g4.add 4) (.slice none 0 0) fun u =>
 LdI .i64 (u.cell? g4) fun res0_0 =>
 LdStr (u.cell? (g4.add 1)) fun res0_1 =>
 LdSl (u.cell? (g4.add 2)) fun res0_2 res0_2N res0_2C =>
 LdStr (u.cell? (g4.add 3)) fun res0_3 =>
 LdSl (u.cell? (g4.add 4)) fun res0_4 res0_4N res0_4C =>
 R (.returned (.tuple #[(.agg #[(.int .i64 res0_0),(.string res0_1),(.slice res0_2 res0_2N res0_2C),(.string res0_3),(.slice res0_4 res0_4N res0_4C)]),(.int .i64 0)])) u))
theorem ok48 (d:Option Addr) (n:Int) {w:World}{R:Ending→World→Prop} (h:F48 d n w R):Calls Tryz.prog 48 #[(.pointer d),(.int .u64 n)] w R :=
 vc_calls (pl:=⟨30,⟨[]⟩,[],[]⟩) Tryz.func48 (by kernel_rfl) (by kernel_rfl) (by kernel_rfl) (Eq.mp (by kernel_rfl) h)
def F130 (d:Option Addr) (i:Int) (f:World) (R:Ending→World→Prop):Prop :=
 NonNil d fun p6 =>
 LdSl (f.cell? p6) fun g e c =>
 IdxA g e i 8 fun a =>
 LdI .u32 (f.cell? a) fun b =>
 InR .u64 (b)∧InR .u64 ((b)*(2 ^ (min ((32:Int)).toNat 64)))∧InR .i64 (i+(1:Int))∧InR .u64 ((i+(1:Int)))∧R (.returned (.int .u64 (bOr .u64 ((b)*(2 ^ (min ((32:Int)).toNat 64))) ((i+(1:Int)))))) f
theorem ok130 (d:Option Addr) (i:Int) {w:World}{R:Ending→World→Prop} (h:F130 d i w R):Calls Tryz.prog 130 #[(.pointer d),(.int .i64 i)] w R :=
 vc_calls (pl:=⟨19,⟨[]⟩,[],[]⟩) Tryz.func130 (by kernel_rfl) (by kernel_rfl) (by kernel_rfl) (Eq.mp (by kernel_rfl) h)
def F99 (d:Option Addr) (where_:Int) (at_:Int) (x_0:Int) (x_1:ByteArray) (x_2:Option Addr) (x_2N:Nat) (x_2C:Nat) (x_3:ByteArray) (x_4:Option Addr) (x_4N:Nat) (x_4C:Nat) (w_:World) (R:Ending→World→Prop):Prop :=
 Al w_ #[(.int .i64 x_0),(.string x_1),(.slice x_2 x_2N x_2C),(.string x_3),(.slice x_4 x_4N x_4C)] 84 fun g7 w1 =>
 Calls Tryz.prog 138 #[(.pointer d),(.int .i64 where_),(.int .u64 at_)] w1 (post R fun v ra =>
 ∃(p:Int) (u:Int),v=(.tuple #[(.int .u64 p),(.int .i64 u)]) ∧
 Br (u == (1:Int))
 (R (.returned (.tuple #[(.int .u64 0),(.int .i64 u)])) ra)
 (LdI .i64 (ra.cell? g7) fun ma =>
 LdStr (ra.cell? (g7.add 1)) fun fa =>
 LdSl (ra.cell? (g7.add 2)) fun r j h =>
 LdStr (ra.cell? (g7.add 3)) fun s =>
 LdSl (ra.cell? (g7.add 4)) fun ca c e =>
 Calls Tryz.prog 139 #[(.agg #[(.int .i64 ma),(.string fa),(.slice r j h),(.string s),(.slice ca c e)])] ra (post R fun v2 ya =>
 ∃(ib:Int),v2=(.int .i64 ib) ∧
 Br (ib != (0:Int))
 (R (.returned (.tuple #[(.int .u64 0),(.int .i64 ib)])) ya)
 (Br (u != (0:Int))
 (R (.returned (.tuple #[(.int .u64 0),(.int .i64 u)])) ya)
 (LdI .i64 (ya.cell? g7) fun na =>
 LdStr (ya.cell? (g7.add 1)) fun ga =>
 LdSl (ya.cell? (g7.add 2)) fun ha a k =>
 LdStr (ya.cell? (g7.add 3)) fun da =>
 LdSl (ya.cell? (g7.add 4)) fun ba b m =>
 Calls Tryz.prog 140 #[(.agg #[(.int .i64 na),(.string ga),(.slice ha a k),(.string da),(.slice ba b m)])] ya (post R fun v3 cb =>
 ∃(q:Int) (aa:Int),v3=(.tuple #[(.int .i64 q),(.int .i64 aa)]) ∧
 Calls Tryz.prog 141 #[(.pointer d),(.int .u64 p)] cb (post R fun v4 sa =>
 ∃(fb:Int),v4=(.int .i64 fb) ∧
 InR .i64 (fb+(1:Int))∧InR .i64 ((fb+(1:Int))+aa)∧Br (decide (((fb+(1:Int))+aa) > (64:Int)))
 (R (.returned (.tuple #[(.int .u64 0),(.int .i64 32)])) sa)
 (Calls Tryz.prog 142 #[(.pointer d)] sa (post R fun v5 za =>
 ∃(eb:Int),v5=(.int .i64 eb) ∧
 InR .i64 (eb+q)∧Br (decide ((eb+q) > (4096:Int)))
 (R (.returned (.tuple #[(.int .u64 0),(.int .i64 33)])) za)
 (Al za #[] 162 fun g52 ua =>
 NonNil d fun p54 =>
 LdSl (ua.cell? p54) fun db ta pa =>
 Raw Tryz.prog (Builtin.append_ #[22,22] 22 #[(.slice (some g52) 0 0),(.slice db ta pa)]) ua fun v6 va =>
 ∃(hb:Option Addr) (qa:Nat) (ab:Nat),v6=(.slice hb qa ab) ∧
 NonNil d fun p58 =>
 St va p58 (.slice hb qa ab) fun bb =>
 LdI .i64 (bb.cell? g7) fun z =>
 LdStr (bb.cell? (g7.add 1)) fun ia =>
 LdSl (bb.cell? (g7.add 2)) fun ka f g =>
 LdStr (bb.cell? (g7.add 3)) fun y =>
 LdSl (bb.cell? (g7.add 4)) fun ja n i =>
 Calls Tryz.prog 143 #[(.pointer d),(.agg #[(.int .i64 z),(.string ia),(.slice ka f g),(.string y),(.slice ja n i)]),(.int .u64 p)] bb (post R fun v7 ea =>
 ∃(gb:Int),v7=(.int .u64 gb) ∧
 Calls Tryz.prog 144 #[(.pointer d),(.int .u64 gb),(.int .u64 p),(.int .i64 where_),(.int .u64 at_)] ea (post R fun v8 t =>
 v8=(.tuple #[]) ∧
 R (.returned (.tuple #[(.int .u64 gb),(.int .i64 0)])) t))))))))))))
theorem ok99 (d:Option Addr) (where_:Int) (at_:Int) (x_0:Int) (x_1:ByteArray) (x_2:Option Addr) (x_2N:Nat) (x_2C:Nat) (x_3:ByteArray) (x_4:Option Addr) (x_4N:Nat) (x_4C:Nat) {w:World}{R:Ending→World→Prop} (h:F99 d where_ at_ x_0 x_1 x_2 x_2N x_2C x_3 x_4 x_4N x_4C w R):Calls Tryz.prog 99 #[(.pointer d),(.int .i64 where_),(.int .u64 at_),(.agg #[(.int .i64 x_0),(.string x_1),(.slice x_2 x_2N x_2C),(.string x_3),(.slice x_4 x_4N x_4C)])] w R :=
 vc_calls (pl:=⟨71,⟨[]⟩,[],[]⟩) Tryz.func99 (by kernel_rfl) (by kernel_rfl) (by kernel_rfl) (Eq.mp (by kernel_rfl) h)
def F129 (d:Option Addr) (h_:Int) (p:World) (R:Ending→World→Prop):Prop :=
 Br (h_ == (0:Int))
 (NonNil d fun p8 =>
 LdSl (p.cell? (p8.add 1)) fun n e a =>
 R (.returned (.slice n e a)) p)
 (∃S:World→Prop,S p.drew∧NonNil d fun p12 =>
 ∃(i:Option Addr) (b:Nat) (h:Nat),Held S p12 (.slice i b h)∧Calls Tryz.prog 82 #[(.pointer d),(.int .u64 h_)] p.drew (post R fun v c =>
 ∃(j:Int),v=(.int .i64 j) ∧
 S c∧IdxA i b j 8 fun m =>
 ∃(k:Option Addr) (f:Nat) (g:Nat),Held S (m.add 7) (.slice k f g)∧R (.returned (.slice k f g)) c))
theorem ok129 (d:Option Addr) (h_:Int) {w:World}{R:Ending→World→Prop} (h:F129 d h_ w R):Calls Tryz.prog 129 #[(.pointer d),(.int .u64 h_)] w R :=
 vc_calls (pl:=⟨21,⟨[]⟩,[],[]⟩) Tryz.func129 (by kernel_rfl) (by kernel_rfl) (by kernel_rfl) (Eq.mp (by kernel_rfl) h)
def F80 (d:Option Addr) (h_:Int) (a:World) (R:Ending→World→Prop):Prop :=
 Calls Tryz.prog 82 #[(.pointer d),(.int .u64 h_)] a (post R fun v w1 =>
 ∃(b:Int),v=(.int .i64 b) ∧
 R (.returned (.bool (decide (b≥(0:Int))))) w1)
theorem ok80 (d:Option Addr) (h_:Int) {w:World}{R:Ending→World→Prop} (h:F80 d h_ w R):Calls Tryz.prog 80 #[(.pointer d),(.int .u64 h_)] w R :=
 vc_calls (pl:=⟨9,⟨[]⟩,[],[]⟩) Tryz.func80 (by kernel_rfl) (by kernel_rfl) (by kernel_rfl) (Eq.mp (by kernel_rfl) h)
def F101_j8 (d:Option Addr) (n:Int) (where_:Int) (at_:Int) (y:Int) (s:Int) (bb:World) (R:Ending→World→Prop):Prop :=
 Br (s != (0:Int))
 (R (.returned (.int .i64 s)) bb)
 (Calls Tryz.prog 146 #[(.pointer d),(.int .u64 n)] bb (post R fun v2 ma =>
 ∃(g:Int) (f:ByteArray) (i:Option Addr) (b:Nat) (c:Nat) (h:ByteArray) (j:Option Addr) (a:Nat) (e:Nat) (fa:Int),v2=(.tuple #[(.agg #[(.int .i64 g),(.string f),(.slice i b c),(.string h),(.slice j a e)]),(.int .i64 fa)]) ∧
 Al ma #[(.int .i64 0),(.string (ByteArray.mk #[])),(.slice none 0 0),(.string (ByteArray.mk #[])),(.slice none 0 0)] 84 fun t ua =>
 St ua t (.int .i64 g) fun za =>
 St za (t.add 1) (.string f) fun qa =>
 St qa (t.add 2) (.slice i b c) fun va =>
 St va (t.add 3) (.string h) fun ra =>
 St ra (t.add 4) (.slice j a e) fun ta =>
 LdI .i64 (ta.cell? t) fun ga =>
 LdStr (ta.cell? (t.add 1)) fun ca =>
 LdSl (ta.cell? (t.add 2)) fun ba q k =>
 LdStr (ta.cell? (t.add 3)) fun u =>
 LdSl (ta.cell? (t.add 4)) fun r m p =>
 Calls Tryz.prog 140 #[(.agg #[(.int .i64 ga),(.string ca),(.slice ba q k),(.string u),(.slice r m p)])] ta (post R fun v3 ya =>
 ∃(ea:Int) (da:Int),v3=(.tuple #[(.int .i64 ea),(.int .i64 da)]) ∧
 Calls Tryz.prog 141 #[(.pointer d),(.int .u64 y)] ya (post R fun v4 ha =>
 ∃(db:Int),v4=(.int .i64 db) ∧
 InR .i64 (db+(1:Int))∧InR .i64 ((db+(1:Int))+da)∧Br (decide (((db+(1:Int))+da) > (64:Int)))
 (R (.returned (.int .i64 32)) ha)
 (Al ha #[] 162 fun g63 z =>
 NonNil d fun p65 =>
 LdSl (z.cell? p65) fun cb ka sa =>
 Raw Tryz.prog (Builtin.append_ #[22,22] 22 #[(.slice (some g63) 0 0),(.slice cb ka sa)]) z fun v5 ja =>
 ∃(ab:Option Addr) (na:Nat) (pa:Nat),v5=(.slice ab na pa) ∧
 NonNil d fun p69 =>
 St ja p69 (.slice ab na pa) fun ia =>
 Calls Tryz.prog 147 #[(.pointer d),(.int .u64 n)] ia (post R fun v6 v =>
 v6=(.tuple #[]) ∧
 Calls Tryz.prog 144 #[(.pointer d),(.int .u64 n),(.int .u64 y),(.int .i64 where_),(.int .u64 at_)] v (post R fun v7 aa =>
 v7=(.tuple #[]) ∧
 R (.returned (.int .i64 0)) aa)))))))
def F101_j6 (d:Option Addr) (n:Int) (where_:Int) (at_:Int) (b:Int) (a:Int) (e:World) (R:Ending→World→Prop):Prop :=
 ∃J8:World→Prop,(∀ (c:World),J8 c→F101_j8 d n where_ at_ b a c R) ∧
 (Br (at_ != (0:Int))
 (Calls Tryz.prog 145 #[(.pointer d),(.int .u64 at_),(.int .u64 n)] e (post R fun v2 c =>
 ∃(f:Bool),v2=(.bool f) ∧
 Br f
 (R (.returned (.int .i64 34)) c)
 (J8 c)))
 (J8 e))
def F101 (d:Option Addr) (n:Int) (where_:Int) (at_:Int) (f:World) (R:Ending→World→Prop):Prop :=
 Calls Tryz.prog 138 #[(.pointer d),(.int .i64 where_),(.int .u64 at_)] f (post R fun v w1 =>
 ∃(b:Int) (a:Int),v=(.tuple #[(.int .u64 b),(.int .i64 a)]) ∧
 Br (a == (1:Int))
 (R (.returned (.int .i64 a)) w1)
 (∃J6:World→Prop,(∀ (c:World),J6 c→F101_j6 d n where_ at_ b a c R) ∧
 (Calls Tryz.prog 80 #[(.pointer d),(.int .u64 n)] w1 (post R fun v2 c =>
 ∃(e:Bool),v2=(.bool e) ∧
 Br (!e)
 (R (.returned (.int .i64 8)) c)
 (Br (a == (8:Int))
 (R (.returned (.int .i64 8)) c)
 (J6 c))))))
theorem ok101 (d:Option Addr) (n:Int) (where_:Int) (at_:Int) {w:World}{R:Ending→World→Prop} (h:F101 d n where_ at_ w R):Calls Tryz.prog 101 #[(.pointer d),(.int .u64 n),(.int .i64 where_),(.int .u64 at_)] w R :=
 vc_calls (pl:=⟨80,⟨[]⟩,[(8,⟨[],[(8,9),(33,41)]⟩),(6,⟨[],[(8,9),(25,33)]⟩)],[]⟩) Tryz.func101 (by kernel_rfl) (by kernel_rfl) (by kernel_rfl) (Eq.mp (by kernel_rfl) h)
def F105_j18 (d:Option Addr) (a:Int) (r:Option Addr) (m:Nat) (j:Nat) (t:Option Addr) (f:Nat) (p:Nat) (k2:Int) (s:World) (R:Ending→World→Prop):Prop :=
 ∃S:World→Prop,S s.drew∧NonNil d fun p93 =>
 ∃(q:Option Addr) (h:Nat) (g:Nat),Held S p93 (.slice q h g)∧SlB k2 ((m:Nat):Int) ((j:Nat):Int)
 (Raw Tryz.prog (Builtin.append_ #[81,81] 81 #[(.slice t f p),(.slice (SlA r j (k2).toNat 2) ((((m:Nat):Int)).toNat-(k2).toNat) (j-(k2).toNat))]) s.drew fun v6 k =>
 ∃(i:Option Addr) (b:Nat) (c:Nat),v6=(.slice i b c) ∧
 S k∧IdxA q h a 8 fun n =>
 St k (n.add 4) (.slice i b c) fun e =>
 R (.returned (.int .i64 0)) e)
def F105_j15 (d:Option Addr) (name:ByteArray) (value:ByteArray) (a:Int) (p:Option Addr) (f:Nat) (e:Nat) (g43:Addr) (k:Int) (there:Bool) (s:World) (R:Ending→World→Prop):Prop :=
 SlB 0 k ((e:Nat):Int)
 (Raw Tryz.prog (Builtin.append_ #[81,81] 81 #[(.slice (some g43) 0 0),(.slice p (k).toNat e)]) s fun v4 g =>
 ∃(r:Option Addr) (h:Nat) (n:Nat),v4=(.slice r h n) ∧
 Al g #[(.string name),(.string value)] 205 fun g87 b =>
 Raw Tryz.prog (Builtin.append_ #[81,81] 81 #[(.slice r h n),(.slice (some g87) 1 1)]) b fun v5 j =>
 ∃(q:Option Addr) (c:Nat) (m:Nat),v5=(.slice q c m) ∧
 ∃J18:Int→World→Prop,(∀(k2:Int) (i:World),J18 k2 i→F105_j18 d a p f e q c m k2 i R) ∧
 (Br there
 (InR .i64 (k+(1:Int))∧J18 (k+(1:Int)) j)
 (J18 k j)))
def F105_j13 (d:Option Addr) (name:ByteArray) (value:ByteArray) (a:Int) (f:Option Addr) (c:Nat) (b:Nat) (g43:Addr) (k:Int) (there:Bool) (g:World) (R:Ending→World→Prop):Prop :=
 ∃J15:World→Prop,(∀ (e:World),J15 e→F105_j15 d name value a f c b g43 k there e R) ∧
 (Br (!there)
 (Br (decide (((c:Nat):Int)≥(32:Int)))
 (R (.returned (.int .i64 2)) g)
 (J15 g))
 (J15 g))
def F105_j12 (d:Option Addr) (name:ByteArray) (value:ByteArray) (a:Int) (g:Option Addr) (c:Nat) (b:Nat) (g43:Addr) (k:Int) (i:World) (R:Ending→World→Prop):Prop :=
 ∃J13:Bool→World→Prop,(∀(there:Bool) (e:World),J13 there e→F105_j13 d name value a g c b g43 k there e R) ∧
 (Br (decide (k < ((c:Nat):Int)))
 (IdxA g c k 2 fun h =>
 LdStr (i.cell? h) fun f =>
 J13 (f.toList == name.toList) i)
 (J13 false i))
def F105_j11 (L10:Int→World→Prop) (k:Int) (a:World) (R:Ending→World→Prop):Prop :=
 InR .i64 (k+(1:Int))∧L10 (k+(1:Int)) a
def F105_l10 (name:ByteArray) (d:Option Addr) (a:Nat) (J12:Int→World→Prop) (L10:Int→World→Prop) (k:Int) (e:World) (R:Ending→World→Prop):Prop :=
 ∃J11:World→Prop,(∀ (b:World),J11 b→F105_j11 L10 k b R) ∧
 (Br (decide (k < ((a:Nat):Int)))
 (IdxA d a k 2 fun f =>
 LdStr (e.cell? f) fun c =>
 Br (Op.bytesLess c.toList name.toList)
 (J11 e)
 (J12 k e))
 (J12 k e))
def F105 (d:Option Addr) (n:Int) (name:ByteArray) (value:ByteArray) (z:World) (R:Ending→World→Prop):Prop :=
 Calls Tryz.prog 148 #[(.pointer d),(.int .u64 n),(.int .i64 1)] z (post R fun v w1 =>
 ∃(a:Int) (e:Int),v=(.tuple #[(.int .i64 a),(.int .i64 e)]) ∧
 Br (e != (0:Int))
 (R (.returned (.int .i64 e)) w1)
 (Calls Tryz.prog 149 #[(.string name)] w1 (post R fun v2 r =>
 ∃(s:Bool),v2=(.bool s) ∧
 Br (!s)
 (R (.returned (.int .i64 6)) r)
 (Calls Tryz.prog 89 #[(.string value)] r (post R fun v3 q =>
 ∃(c:Int) (b:Int),v3=(.tuple #[(.int .i64 c),(.int .i64 b)]) ∧
 Br (b != (0:Int))
 (R (.returned (.int .i64 b)) q)
 (NonNil d fun p36 =>
 LdSl (q.cell? p36) fun t f p =>
 IdxA t f a 8 fun y =>
 LdSl (q.cell? (y.add 4)) fun u h g =>
 Al q #[] 205 fun g43 i =>
 ∃J12:Int→World→Prop,(∀(k:Int) (j:World),J12 k j→F105_j12 d name value a u h g g43 k j R) ∧
 (∃(I:Int→World→Prop) (m:Int→World→Nat),I (0:Int) i ∧
 ∀(k:Int) (j:World),I k j→F105_l10 name u h J12 (fun k' w2=>I k' w2∧m k' w2 < m k j) k j R)))))))
theorem ok105 (d:Option Addr) (n:Int) (name:ByteArray) (value:ByteArray) {w:World}{R:Ending→World→Prop} (h:F105 d n name value w R):Calls Tryz.prog 105 #[(.pointer d),(.int .u64 n),(.string name),(.string value)] w R :=
 vc_calls (pl:=⟨104,⟨[]⟩,[(11,⟨[],[(44,57)]⟩),(18,⟨[(13,(.s (.int .i64)))],[(13,92)]⟩),(15,⟨[],[(8,9),(72,79)]⟩),(13,⟨[(14,(.s .bool))],[(14,72)]⟩),(12,⟨[(13,(.s (.int .i64)))],[(13,59)]⟩)],[(10,⟨[(13,(.s (.int .i64)))],[(13,59)]⟩)]⟩) Tryz.func105 (by kernel_rfl) (by kernel_rfl) (by kernel_rfl) (Eq.mp (by kernel_rfl) h)
def F103 (d:Option Addr) (n:Int) (name:ByteArray) (k:World) (R:Ending→World→Prop):Prop :=
 Calls Tryz.prog 148 #[(.pointer d),(.int .u64 n),(.int .i64 1)] k (post R fun v w1 =>
 ∃(a:Int) (b:Int),v=(.tuple #[(.int .i64 a),(.int .i64 b)]) ∧
 Br (b != (0:Int))
 (R (.returned (.int .i64 b)) w1)
 (Calls Tryz.prog 149 #[(.string name)] w1 (post R fun v2 g =>
 ∃(i:Bool),v2=(.bool i) ∧
 Br (!i)
 (R (.returned (.int .i64 6)) g)
 (NonNil d fun p22 =>
 LdSl (g.cell? p22) fun j c e =>
 IdxA j c a 8 fun h =>
 St g (h.add 3) (.string name) fun f =>
 R (.returned (.int .i64 0)) f))))
theorem ok103 (d:Option Addr) (n:Int) (name:ByteArray) {w:World}{R:Ending→World→Prop} (h:F103 d n name w R):Calls Tryz.prog 103 #[(.pointer d),(.int .u64 n),(.string name)] w R :=
 vc_calls (pl:=⟨29,⟨[]⟩,[],[]⟩) Tryz.func103 (by kernel_rfl) (by kernel_rfl) (by kernel_rfl) (Eq.mp (by kernel_rfl) h)
def F104 (d:Option Addr) (n:Int) (text:ByteArray) (m:World) (R:Ending→World→Prop):Prop :=
 Calls Tryz.prog 148 #[(.pointer d),(.int .u64 n),(.int .i64 2)] m (post R fun v w1 =>
 ∃(b:Int) (c:Int),v=(.tuple #[(.int .i64 b),(.int .i64 c)]) ∧
 Br (c != (0:Int))
 (R (.returned (.int .i64 c)) w1)
 (Calls Tryz.prog 89 #[(.string text)] w1 (post R fun v2 i =>
 ∃(e:Int) (a:Int),v2=(.tuple #[(.int .i64 e),(.int .i64 a)]) ∧
 Br (a != (0:Int))
 (R (.returned (.int .i64 a)) i)
 (NonNil d fun p27 =>
 LdSl (i.cell? p27) fun j f h =>
 IdxA j f b 8 fun k =>
 St i (k.add 5) (.string text) fun g =>
 R (.returned (.int .i64 0)) g))))
theorem ok104 (d:Option Addr) (n:Int) (text:ByteArray) {w:World}{R:Ending→World→Prop} (h:F104 d n text w R):Calls Tryz.prog 104 #[(.pointer d),(.int .u64 n),(.string text)] w R :=
 vc_calls (pl:=⟨34,⟨[]⟩,[],[]⟩) Tryz.func104 (by kernel_rfl) (by kernel_rfl) (by kernel_rfl) (Eq.mp (by kernel_rfl) h)
def F146_l6 (d:Option Addr) (g4:Addr) (g6:Addr) (gb:Option Addr) (va:Nat) (L6:Int→World→Prop) (i:Int) (hb:World) (R:Ending→World→Prop):Prop :=
 Br (decide (i < ((va:Nat):Int)))
 (IdxA gb va i 1 fun cb =>
 LdI .u64 (hb.cell? cb) fun db =>
 Calls Tryz.prog 146 #[(.pointer d),(.int .u64 db)] hb (post R fun v3 ka =>
 ∃(m:Int) (h:ByteArray) (j:Option Addr) (e:Nat) (c:Nat) (g:ByteArray) (f:Option Addr) (a:Nat) (b:Nat) (fa:Int),v3=(.tuple #[(.agg #[(.int .i64 m),(.string h),(.slice j e c),(.string g),(.slice f a b)]),(.int .i64 fa)]) ∧
 Al ka #[(.int .i64 0),(.string (ByteArray.mk #[])),(.slice none 0 0),(.string (ByteArray.mk #[])),(.slice none 0 0)] 84 fun k ca =>
 St ca k (.int .i64 m) fun qa =>
 St qa (k.add 1) (.string h) fun ma =>
 St ma (k.add 2) (.slice j e c) fun y =>
 St y (k.add 3) (.string g) fun ga =>
 St ga (k.add 4) (.slice f a b) fun na =>
 LdSl (na.cell? (g6.add 4)) fun eb bb ya =>
 LdI .i64 (na.cell? k) fun ia =>
 LdStr (na.cell? (k.add 1)) fun ta =>
 LdSl (na.cell? (k.add 2)) fun ba p v =>
 LdStr (na.cell? (k.add 3)) fun ra =>
 LdSl (na.cell? (k.add 4)) fun ha r q =>
 Al na #[(.int .i64 ia),(.string ta),(.slice ba p v),(.string ra),(.slice ha r q)] 84 fun g43 ea =>
 Raw Tryz.prog (Builtin.append_ #[82,82] 82 #[(.slice eb bb ya),(.slice (some g43) 1 1)]) ea fun v4 da =>
 ∃(fb:Option Addr) (ab:Nat) (za:Nat),v4=(.slice fb ab za) ∧
 St da (g6.add 4) (.slice fb ab za) fun sa =>
 InR .i64 (i+(1:Int))∧L6 (i+(1:Int)) sa))
 (LdI .i64 (hb.cell? g6) fun aa =>
 LdStr (hb.cell? (g6.add 1)) fun ja =>
 LdSl (hb.cell? (g6.add 2)) fun pa n s =>
 LdStr (hb.cell? (g6.add 3)) fun ua =>
 LdSl (hb.cell? (g6.add 4)) fun z u t =>
 St hb g4 (.int .i64 aa) fun ka =>
 St ka (g4.add 1) (.string ja) fun ca =>
 St ca (g4.add 2) (.slice pa n s) fun qa =>
 St qa (g4.add 3) (.string ua) fun ma =>
 St ma (g4.add 4) (.slice z u t) fun y =>
 LdI .i64 (y.cell? g4) fun res0_0 =>
 LdStr (y.cell? (g4.add 1)) fun res0_1 =>
 LdSl (y.cell? (g4.add 2)) fun res0_2 res0_2N res0_2C =>
 LdStr (y.cell? (g4.add 3)) fun res0_3 =>
 LdSl (y.cell? (g4.add 4)) fun res0_4 res0_4N res0_4C =>
 R (.returned (.tuple #[(.agg #[(.int .i64 res0_0),(.string res0_1),(.slice res0_2 res0_2N res0_2C),(.string res0_3),(.slice res0_4 res0_4N res0_4C)]),(.int .i64 0)])) y)
def F146 (d:Option Addr) (n:Int) (w_:World) (R:Ending→World→Prop):Prop :=
 Al w_ #[(.int .i64 0),(.string (ByteArray.mk #[])),(.slice none 0 0),(.string (ByteArray.mk #[])),(.slice none 0 0)] 84 fun g4 w1 =>
 Calls Tryz.prog 48 #[(.pointer d),(.int .u64 n)] w1 (post R fun v ha =>
 ∃(f:Int) (g:ByteArray) (k:Option Addr) (c:Nat) (a:Nat) (h:ByteArray) (j:Option Addr) (b:Nat) (e:Nat) (t:Int),v=(.tuple #[(.agg #[(.int .i64 f),(.string g),(.slice k c a),(.string h),(.slice j b e)]),(.int .i64 t)]) ∧
 Al ha #[(.int .i64 0),(.string (ByteArray.mk #[])),(.slice none 0 0),(.string (ByteArray.mk #[])),(.slice none 0 0)] 84 fun g6 na =>
 St na g6 (.int .i64 f) fun ra =>
 St ra (g6.add 1) (.string g) fun ia =>
 St ia (g6.add 2) (.slice k c a) fun pa =>
 St pa (g6.add 3) (.string h) fun ja =>
 St ja (g6.add 4) (.slice j b e) fun ma =>
 Br (t != (0:Int))
 (LdI .i64 (ma.cell? g6) fun ea =>
 LdStr (ma.cell? (g6.add 1)) fun z =>
 LdSl (ma.cell? (g6.add 2)) fun aa q p =>
 LdStr (ma.cell? (g6.add 3)) fun u =>
 LdSl (ma.cell? (g6.add 4)) fun fa r s =>
 St ma g4 (.int .i64 ea) fun qa =>
 St qa (g4.add 1) (.string z) fun ba =>
 St ba (g4.add 2) (.slice aa q p) fun y =>
 St y (g4.add 3) (.string u) fun da =>
 St da (g4.add 4) (.slice fa r s) fun ca =>
 LdI .i64 (ca.cell? g4) fun res0_0 =>
 LdStr (ca.cell? (g4.add 1)) fun res0_1 =>
 LdSl (ca.cell? (g4.add 2)) fun res0_2 res0_2N res0_2C =>
 LdStr (ca.cell? (g4.add 3)) fun res0_3 =>
 LdSl (ca.cell? (g4.add 4)) fun res0_4 res0_4N res0_4C =>
 R (.returned (.tuple #[(.agg #[(.int .i64 res0_0),(.string res0_1),(.slice res0_2 res0_2N res0_2C),(.string res0_3),(.slice res0_4 res0_4N res0_4C)]),(.int .i64 t)])) ca)
 (Calls Tryz.prog 129 #[(.pointer d),(.int .u64 n)] ma (post R fun v2 qa =>
 ∃(sa:Option Addr) (ga:Nat) (ka:Nat),v2=(.slice sa ga ka) ∧
 ∃(I:Int→World→Prop) (m:Int→World→Nat),I (0:Int) qa ∧
 ∀(i:Int) (ba:World),I i ba→F146_l6 d g4 g6 sa ga (fun i' w2=>I i' w2∧m i' w2 < m i ba) i ba R)))
theorem ok146 (d:Option Addr) (n:Int) {w:World}{R:Ending→World→Prop} (h:F146 d n w R):Calls Tryz.prog 146 #[(.pointer d),(.int .u64 n)] w R :=
 vc_calls (pl:=⟨47,⟨[]⟩,[],[(6,⟨[(9,(.s (.int .i64)))],[(9,46)]⟩)]⟩) Tryz.func146 (by kernel_rfl) (by kernel_rfl) (by kernel_rfl) (Eq.mp (by kernel_rfl) h)
def F81_l5 (d:Option Addr) (g:Option Addr) (a:Nat) (L5:Option Addr→Nat→Nat→Int→World→Prop) (l3:Option Addr) (lN3:Nat) (lC3:Nat) (i:Int) (j:World) (R:Ending→World→Prop):Prop :=
 Br (decide (i < ((a:Nat):Int)))
 (IdxA g a i 1 fun f =>
 LdI .u64 (j.cell? f) fun h =>
 Calls Tryz.prog 81 #[(.pointer d),(.int .u64 h),(.slice l3 lN3 lC3)] j (post R fun v2 e =>
 ∃(k:Option Addr) (c:Nat) (b:Nat),v2=(.slice k c b) ∧
 InR .i64 (i+(1:Int))∧L5 k c b (i+(1:Int)) e))
 (R (.returned (.slice l3 lN3 lC3)) j)
def F81_j3 (d:Option Addr) (h_:Int) (l2:Option Addr) (lN2:Nat) (lC2:Nat) (f:World) (R:Ending→World→Prop):Prop :=
 Calls Tryz.prog 129 #[(.pointer d),(.int .u64 h_)] f (post R fun v w1 =>
 ∃(e:Option Addr) (a:Nat) (c:Nat),v=(.slice e a c) ∧
 ∃(I:Option Addr→Nat→Nat→Int→World→Prop) (m:Option Addr→Nat→Nat→Int→World→Nat),I l2 lN2 lC2 (0:Int) w1 ∧
 ∀(l3:Option Addr) (lN3:Nat) (lC3:Nat) (i:Int) (b:World),I l3 lN3 lC3 i b→F81_l5 d e a (fun l3' lN3' lC3' i' w2=>I l3' lN3' lC3' i' w2∧m l3' lN3' lC3' i' w2 < m l3 lN3 lC3 i b) l3 lN3 lC3 i b R)
def F81 (d:Option Addr) (h_:Int) (l:Option Addr) (lN:Nat) (lC:Nat) (f:World) (R:Ending→World→Prop):Prop :=
 ∃J3:Option Addr→Nat→Nat→World→Prop,(∀(l2:Option Addr) (lN2:Nat) (lC2:Nat) (w1:World),J3 l2 lN2 lC2 w1→F81_j3 d h_ l2 lN2 lC2 w1 R) ∧
 (Br (h_ != (0:Int))
 (Al f #[(.int .u64 h_)] 65 fun g13 w1 =>
 Raw Tryz.prog (Builtin.append_ #[23,23] 23 #[(.slice l lN lC),(.slice (some g13) 1 1)]) w1 fun v a =>
 ∃(e:Option Addr) (b:Nat) (c:Nat),v=(.slice e b c) ∧
 J3 e b c a)
 (J3 l lN lC f))
theorem ok81 (d:Option Addr) (h_:Int) (l:Option Addr) (lN:Nat) (lC:Nat) {w:World}{R:Ending→World→Prop} (h:F81 d h_ l lN lC w R):Calls Tryz.prog 81 #[(.pointer d),(.int .u64 h_),(.slice l lN lC)] w R :=
 vc_calls (pl:=⟨32,⟨[]⟩,[(3,⟨[(2,(.s .slice))],[(2,15)]⟩)],[(5,⟨[(2,(.s .slice)),(8,(.s (.int .i64)))],[(2,3),(8,31)]⟩)]⟩) Tryz.func81 (by kernel_rfl) (by kernel_rfl) (by kernel_rfl) (Eq.mp (by kernel_rfl) h)
def F82_j4 (h_:Int) (a:World) (R:Ending→World→Prop):Prop :=
 R (.returned (.int .i64 (((h_.tmod (4294967296:Int)))-(1:Int)))) a
def F82 (d:Option Addr) (h_:Int) (k:World) (R:Ending→World→Prop):Prop :=
 InR .i64 ((h_.tmod (4294967296:Int)))∧InR .i64 (((h_.tmod (4294967296:Int)))-(1:Int))∧∃J4:World→Prop,(∀ (w1:World),J4 w1→F82_j4 h_ w1 R) ∧
 (Br (decide ((((h_.tmod (4294967296:Int)))-(1:Int)) < (0:Int)))
 (R (.returned (.int .i64 (-1))) k)
 (NonNil d fun p15 =>
 LdSl (k.cell? p15) fun i c e =>
 Br (decide ((((h_.tmod (4294967296:Int)))-(1:Int))≥((c:Nat):Int)))
 (R (.returned (.int .i64 (-1))) k)
 (NonNil d fun p23 =>
 LdSl (k.cell? p23) fun g b a =>
 IdxA g b (((h_.tmod (4294967296:Int)))-(1:Int)) 8 fun f =>
 LdB (k.cell? (f.add 1)) fun h =>
 Br (!h)
 (R (.returned (.int .i64 (-1))) k)
 (Calls Tryz.prog 130 #[(.pointer d),(.int .i64 (((h_.tmod (4294967296:Int)))-(1:Int)))] k (post R fun v w1 =>
 ∃(j:Int),v=(.int .u64 j) ∧
 Br (j != h_)
 (R (.returned (.int .i64 (-1))) w1)
 (J4 w1))))))
theorem ok82 (d:Option Addr) (h_:Int) {w:World}{R:Ending→World→Prop} (h:F82 d h_ w R):Calls Tryz.prog 82 #[(.pointer d),(.int .u64 h_)] w R :=
 vc_calls (pl:=⟨40,⟨[]⟩,[(4,⟨[],[(4,5),(10,39)]⟩)],[]⟩) Tryz.func82 (by kernel_rfl) (by kernel_rfl) (by kernel_rfl) (Eq.mp (by kernel_rfl) h)
def F148 (d:Option Addr) (n:Int) (kind:Int) (t:World) (R:Ending→World→Prop):Prop :=
 Calls Tryz.prog 82 #[(.pointer d),(.int .u64 n)] t (post R fun v w1 =>
 ∃(r:Int),v=(.int .i64 r) ∧
 Br (decide (r < (0:Int)))
 (R (.returned (.tuple #[(.int .i64 0),(.int .i64 8)])) w1)
 (NonNil d fun p15 =>
 LdSl (w1.cell? p15) fun p b j =>
 IdxA p b r 8 fun s =>
 LdI .i64 (w1.cell? (s.add 2)) fun m =>
 Br (m != kind)
 (R (.returned (.tuple #[(.int .i64 0),(.int .i64 30)])) w1)
 (Al w1 #[] 162 fun g25 i =>
 NonNil d fun p27 =>
 LdSl (i.cell? p27) fun k a h =>
 Raw Tryz.prog (Builtin.append_ #[22,22] 22 #[(.slice (some g25) 0 0),(.slice k a h)]) i fun v2 c =>
 ∃(q:Option Addr) (g:Nat) (e:Nat),v2=(.slice q g e) ∧
 NonNil d fun p31 =>
 St c p31 (.slice q g e) fun f =>
 R (.returned (.tuple #[(.int .i64 r),(.int .i64 0)])) f)))
theorem ok148 (d:Option Addr) (n:Int) (kind:Int) {w:World}{R:Ending→World→Prop} (h:F148 d n kind w R):Calls Tryz.prog 148 #[(.pointer d),(.int .u64 n),(.int .i64 kind)] w R :=
 vc_calls (pl:=⟨34,⟨[]⟩,[],[]⟩) Tryz.func148 (by kernel_rfl) (by kernel_rfl) (by kernel_rfl) (Eq.mp (by kernel_rfl) h)
def F178_j3 (L2:Int→World→Prop) (i:Int) (a:World) (R:Ending→World→Prop):Prop :=
 InR .i64 (i+(1:Int))∧L2 (i+(1:Int)) a
def F178_l2 (d:Option Addr) (L2:Int→World→Prop) (i:Int) (ha:World) (R:Ending→World→Prop):Prop :=
 NonNil d fun p6 =>
 LdSl (ha.cell? p6) fun x8 z ca =>
 Br (decide (i < ((z:Nat):Int)))
 (∃J3:World→Prop,(∀ (w1:World),J3 w1→F178_j3 L2 i w1 R) ∧
 (NonNil d fun p14 =>
 LdSl (ha.cell? p14) fun fa b s =>
 IdxA fa b i 8 fun y =>
 LdB (ha.cell? (y.add 1)) fun ba =>
 Br (!ba)
 (NonNil d fun p24 =>
 LdSl (ha.cell? p24) fun u t k =>
 IdxA u t i 8 fun ea =>
 LdI .u32 (ha.cell? ea) fun ia =>
 Br (decide (ia < (4294967295:Int)))
 (R (.returned (.int .i64 i)) ha)
 (J3 ha))
 (J3 ha)))
 (Al ha #[] 162 fun g35 w1 =>
 NonNil d fun p37 =>
 LdSl (w1.cell? p37) fun da f g =>
 Raw Tryz.prog (Builtin.append_ #[22,22] 22 #[(.slice (some g35) 0 0),(.slice da f g)]) w1 fun v e =>
 ∃(ga:Option Addr) (m:Nat) (p:Nat),v=(.slice ga m p) ∧
 Al e #[(.int .u32 0),(.bool false),(.int .i64 0),(.string (ByteArray.mk #[])),(.slice none 0 0),(.string (ByteArray.mk #[])),(.int .u64 0),(.slice none 0 0)] 162 fun g42 q =>
 Raw Tryz.prog (Builtin.append_ #[22,22] 22 #[(.slice ga m p),(.slice (some g42) 1 1)]) q fun v2 r =>
 ∃(aa:Option Addr) (n:Nat) (c:Nat),v2=(.slice aa n c) ∧
 NonNil d fun p44 =>
 St r p44 (.slice aa n c) fun h =>
 NonNil d fun p47 =>
 LdSl (h.cell? p47) fun ja j a =>
 InR .i64 (((j:Nat):Int)-(1:Int))∧R (.returned (.int .i64 (((j:Nat):Int)-(1:Int)))) h)
def F178 (d:Option Addr) (a:World) (R:Ending→World→Prop):Prop :=
 ∃(I:Int→World→Prop) (m:Int→World→Nat),I (0:Int) a ∧
 ∀(i:Int) (w1:World),I i w1→F178_l2 d (fun i' w2=>I i' w2∧m i' w2 < m i w1) i w1 R
theorem ok178 (d:Option Addr) {w:World}{R:Ending→World→Prop} (h:F178 d w R):Calls Tryz.prog 178 #[(.pointer d)] w R :=
 vc_calls (pl:=⟨52,⟨[]⟩,[(3,⟨[],[(2,3),(13,34)]⟩)],[(2,⟨[(3,(.s (.int .i64)))],[(2,34)]⟩)]⟩) Tryz.func178 (by kernel_rfl) (by kernel_rfl) (by kernel_rfl) (Eq.mp (by kernel_rfl) h)
def F141_l2 (d:Option Addr) (L2:Int→Int→World→Prop) (h_2:Int) (n:Int) (g:World) (R:Ending→World→Prop):Prop :=
 Br (h_2 != (0:Int))
 (InR .i64 (n+(1:Int))∧∃S:World→Prop,S g.drew∧NonNil d fun p11 =>
 ∃(h:Option Addr) (b:Nat) (c:Nat),Held S p11 (.slice h b c)∧Calls Tryz.prog 82 #[(.pointer d),(.int .u64 h_2)] g.drew (post R fun v a =>
 ∃(i:Int),v=(.int .i64 i) ∧
 S a∧IdxA h b i 8 fun e =>
 ∃(f:Int),Held S (e.add 6) (.int .u64 f)∧L2 f (n+(1:Int)) a))
 (R (.returned (.int .i64 n)) g)
def F141 (d:Option Addr) (h_:Int) (a:World) (R:Ending→World→Prop):Prop :=
 ∃(I:Int→Int→World→Prop) (m:Int→Int→World→Nat),I h_ ((-1):Int) a ∧
 ∀(h_2:Int) (n:Int) (w1:World),I h_2 n w1→F141_l2 d (fun h_2' n' w2=>I h_2' n' w2∧m h_2' n' w2 < m h_2 n w1) h_2 n w1 R
theorem ok141 (d:Option Addr) (h_:Int) {w:World}{R:Ending→World→Prop} (h:F141 d h_ w R):Calls Tryz.prog 141 #[(.pointer d),(.int .u64 h_)] w R :=
 vc_calls (pl:=⟨21,⟨[]⟩,[],[(2,⟨[(1,(.s (.int .u64))),(5,(.s (.int .i64)))],[(1,20)]⟩)]⟩) Tryz.func141 (by kernel_rfl) (by kernel_rfl) (by kernel_rfl) (Eq.mp (by kernel_rfl) h)
def F143_l10 (d:Option Addr) (ia:Int) (ka:Int) (ca:Option Addr) (aa:Nat) (L10:Int→World→Prop) (k:Int) (ma:World) (R:Ending→World→Prop):Prop :=
 Br (decide (k < ((aa:Nat):Int)))
 (IdxA ca aa k 5 fun da =>
 LdI .i64 (ma.cell? da) fun f =>
 LdStr (ma.cell? (da.add 1)) fun p =>
 LdSl (ma.cell? (da.add 2)) fun n e b =>
 LdStr (ma.cell? (da.add 3)) fun j =>
 LdSl (ma.cell? (da.add 4)) fun g c a =>
 Calls Tryz.prog 143 #[(.pointer d),(.agg #[(.int .i64 f),(.string p),(.slice n e b),(.string j),(.slice g c a)]),(.int .u64 ka)] ma (post R fun v4 h =>
 ∃(ga:Int),v4=(.int .u64 ga) ∧
 ∃S3:World→Prop,S3 h.drew∧NonNil d fun p68 =>
 ∃(fa:Option Addr) (ba:Nat) (v:Nat),Held S3 p68 (.slice fa ba v)∧NonNil d fun p73 =>
 ∃(ja:Option Addr) (r:Nat) (y:Nat),Held S3 p73 (.slice ja r y)∧IdxA ja r ia 8 fun ha =>
 ∃(pa:Option Addr) (t:Nat) (s:Nat),Held S3 (ha.add 7) (.slice pa t s)∧Al h.drew #[(.int .u64 ga)] 65 fun g81 q =>
 S3 q∧Raw Tryz.prog (Builtin.append_ #[23,23] 23 #[(.slice pa t s),(.slice (some g81) 1 1)]) q fun v5 m =>
 ∃(na:Option Addr) (z:Nat) (u:Nat),v5=(.slice na z u) ∧
 S3 m∧IdxA fa ba ia 8 fun ea =>
 St m (ea.add 7) (.slice na z u) fun i =>
 InR .i64 (k+(1:Int))∧L10 (k+(1:Int)) i))
 (R (.returned (.int .u64 ka)) ma)
def F143_j6 (d:Option Addr) (g4:Addr) (va:Int) (s:Addr) (ab:World) (R:Ending→World→Prop):Prop :=
 ∃S2:World→Prop,S2 ab.drew∧NonNil d fun p43 =>
 ∃(ya:Option Addr) (sa:Nat) (ra:Nat),Held S2 p43 (.slice ya sa ra)∧∃(q:Int),Held S2 s (.int .u32 q)∧∃(ga:Bool),Held S2 (s.add 1) (.bool ga)∧∃(fa:Int),Held S2 (s.add 2) (.int .i64 fa)∧∃(t:ByteArray),Held S2 (s.add 3) (.string t)∧∃(ba:Option Addr) (i:Nat) (h:Nat),Held S2 (s.add 4) (.slice ba i h)∧∃(ma:ByteArray),Held S2 (s.add 5) (.string ma)∧∃(j:Int),Held S2 (s.add 6) (.int .u64 j)∧∃(r:Option Addr) (a:Nat) (e:Nat),Held S2 (s.add 7) (.slice r a e)∧IdxA ya sa va 8 fun bb =>
 St ab.drew bb (.int .u32 q) fun n =>
 St n (bb.add 1) (.bool ga) fun aa =>
 St aa (bb.add 2) (.int .i64 fa) fun ja =>
 St ja (bb.add 3) (.string t) fun y =>
 St y (bb.add 4) (.slice ba i h) fun v =>
 St v (bb.add 5) (.string ma) fun pa =>
 St pa (bb.add 6) (.int .u64 j) fun ea =>
 St ea (bb.add 7) (.slice r a e) fun na =>
 Calls Tryz.prog 130 #[(.pointer d),(.int .i64 va)] na (post R fun v2 p =>
 ∃(za:Int),v2=(.int .u64 za) ∧
 LdI .i64 (p.cell? g4) fun ha =>
 LdStr (p.cell? (g4.add 1)) fun ia =>
 LdSl (p.cell? (g4.add 2)) fun ka f c =>
 LdStr (p.cell? (g4.add 3)) fun u =>
 LdSl (p.cell? (g4.add 4)) fun ca g b =>
 Calls Tryz.prog 177 #[(.agg #[(.int .i64 ha),(.string ia),(.slice ka f c),(.string u),(.slice ca g b)])] p (post R fun v3 z =>
 ∃(ua:Option Addr) (ta:Nat) (qa:Nat),v3=(.slice ua ta qa) ∧
 ∃(I:Int→World→Prop) (m:Int→World→Nat),I (0:Int) z ∧
 ∀(k:Int) (da:World),I k da→F143_l10 d va za ua ta (fun k' w2=>I k' w2∧m k' w2 < m k da) k da R))
def F143 (d:Option Addr) (x_0:Int) (x_1:ByteArray) (x_2:Option Addr) (x_2N:Nat) (x_2C:Nat) (x_3:ByteArray) (x_4:Option Addr) (x_4N:Nat) (x_4C:Nat) (parent:Int) (w_:World) (R:Ending→World→Prop):Prop :=
 Al w_ #[(.int .i64 x_0),(.string x_1),(.slice x_2 x_2N x_2C),(.string x_3),(.slice x_4 x_4N x_4C)] 84 fun g4 w1 =>
 Calls Tryz.prog 178 #[(.pointer d)] w1 (post R fun v m =>
 ∃(ja:Int),v=(.int .i64 ja) ∧
 ∃S:World→Prop,S m.drew∧NonNil d fun p16 =>
 ∃(ia:Option Addr) (j:Nat) (k:Nat),Held S p16 (.slice ia j k)∧IdxA ia j ja 8 fun ma =>
 ∃(da:Int),Held S ma (.int .u32 da)∧InR .u32 (da+(1:Int))∧∃(ea:Int),Held S g4 (.int .i64 ea)∧Al m.drew #[(.int .u32 0),(.bool false),(.int .i64 0),(.string (ByteArray.mk #[])),(.slice none 0 0),(.string (ByteArray.mk #[])),(.int .u64 0),(.slice none 0 0)] 162 fun s ba =>
 S ba∧St ba s (.int .u32 (da+(1:Int))) fun p =>
 St p (s.add 1) (.bool true) fun z =>
 St z (s.add 2) (.int .i64 ea) fun t =>
 St t (s.add 3) (.string (ByteArray.mk #[])) fun y =>
 St y (s.add 4) (.slice none 0 0) fun aa =>
 St aa (s.add 5) (.string (ByteArray.mk #[])) fun f =>
 St f (s.add 6) (.int .u64 parent) fun b =>
 St b (s.add 7) (.slice none 0 0) fun i =>
 ∃J6:World→Prop,(∀ (g:World),J6 g→F143_j6 d g4 ja s g R) ∧
 (LdI .i64 (i.cell? g4) fun fa =>
 Br (fa == (2:Int))
 (LdStr (i.cell? (g4.add 3)) fun ca =>
 St i (s.add 5) (.string ca) fun g =>
 J6 g)
 (∃S2:World→Prop,S2 i.drew∧∃(ka:ByteArray),Held S2 (g4.add 1) (.string ka)∧∃(ga:Option Addr) (u:Nat) (r:Nat),Held S2 (g4.add 2) (.slice ga u r)∧Al i.drew #[] 205 fun g36 a =>
 S2 a∧Raw Tryz.prog (Builtin.append_ #[81,81] 81 #[(.slice (some g36) 0 0),(.slice ga u r)]) a fun v2 e =>
 ∃(ha:Option Addr) (n:Nat) (q:Nat),v2=(.slice ha n q) ∧
 S2 e∧St e (s.add 3) (.string ka) fun h =>
 St h (s.add 4) (.slice ha n q) fun c =>
 J6 c)))
theorem ok143 (d:Option Addr) (x_0:Int) (x_1:ByteArray) (x_2:Option Addr) (x_2N:Nat) (x_2C:Nat) (x_3:ByteArray) (x_4:Option Addr) (x_4N:Nat) (x_4C:Nat) (parent:Int) {w:World}{R:Ending→World→Prop} (h:F143 d x_0 x_1 x_2 x_2N x_2C x_3 x_4 x_4N x_4C parent w R):Calls Tryz.prog 143 #[(.pointer d),(.agg #[(.int .i64 x_0),(.string x_1),(.slice x_2 x_2N x_2C),(.string x_3),(.slice x_4 x_4N x_4C)]),(.int .u64 parent)] w R :=
 vc_calls (pl:=⟨86,⟨[]⟩,[(6,⟨[],[(28,42)]⟩)],[(10,⟨[(11,(.s (.int .i64)))],[(11,85)]⟩)]⟩) Tryz.func143 (by kernel_rfl) (by kernel_rfl) (by kernel_rfl) (Eq.mp (by kernel_rfl) h)
def F147 (d:Option Addr) (n:Int) (w_:World) (R:Ending→World→Prop):Prop :=
 ∃S:World→Prop,S w_.drew∧NonNil d fun p8 =>
 ∃(ba:Option Addr) (f:Nat) (a:Nat),Held S p8 (.slice ba f a)∧Calls Tryz.prog 82 #[(.pointer d),(.int .u64 n)] w_.drew (post R fun v c =>
 ∃(z:Int),v=(.int .i64 z) ∧
 S c∧IdxA ba f z 8 fun ca =>
 ∃(aa:Int),Held S (ca.add 6) (.int .u64 aa)∧Calls Tryz.prog 129 #[(.pointer d),(.int .u64 aa)] c (post R fun v2 k =>
 ∃(t:Option Addr) (q:Nat) (j:Nat),v2=(.slice t q j) ∧
 Calls Tryz.prog 179 #[(.slice t q j),(.int .u64 n)] k (post R fun v3 s =>
 ∃(u:Int),v3=(.int .i64 u) ∧
 ∃S2:World→Prop,S2 s.drew∧SlB 0 u ((j:Nat):Int)
 (InR .i64 (u+(1:Int))∧SlB (u+(1:Int)) ((q:Nat):Int) ((j:Nat):Int)
 (Al s.drew #[] 65 fun g25 m =>
 Raw Tryz.prog (Builtin.append_ #[23,23] 23 #[(.slice (some g25) 0 0),(.slice t (u).toNat j)]) m fun v4 g =>
 ∃(y:Option Addr) (e:Nat) (b:Nat),v4=(.slice y e b) ∧
 Raw Tryz.prog (Builtin.append_ #[23,23] 23 #[(.slice y e b),(.slice (SlA t j ((u+(1:Int))).toNat 1) ((((q:Nat):Int)).toNat-((u+(1:Int))).toNat) (j-((u+(1:Int))).toNat))]) g fun v5 i =>
 ∃(da:Option Addr) (p:Nat) (h:Nat),v5=(.slice da p h) ∧
 Calls Tryz.prog 180 #[(.pointer d),(.int .u64 aa),(.slice da p h)] i (post R fun v6 r =>
 v6=(.tuple #[]) ∧
 R (.returned (.tuple #[])) r))))))
theorem ok147 (d:Option Addr) (n:Int) {w:World}{R:Ending→World→Prop} (h:F147 d n w R):Calls Tryz.prog 147 #[(.pointer d),(.int .u64 n)] w R :=
 vc_calls (pl:=⟨36,⟨[]⟩,[],[]⟩) Tryz.func147 (by kernel_rfl) (by kernel_rfl) (by kernel_rfl) (Eq.mp (by kernel_rfl) h)
def F138_j8 (at_:Int) (a:World) (R:Ending→World→Prop):Prop :=
 R (.returned (.tuple #[(.int .u64 at_),(.int .i64 0)])) a
def F138_j5 (d:Option Addr) (where_:Int) (at_:Int) (m:World) (R:Ending→World→Prop):Prop :=
 Br (decide (where_≤(2:Int)))
 (∃J8:World→Prop,(∀ (w1:World),J8 w1→F138_j8 at_ w1 R) ∧
 (∃S:World→Prop,S m.drew∧Br (at_ != (0:Int))
 (NonNil d fun p36 =>
 ∃(h:Option Addr) (a:Nat) (e:Nat),Held S p36 (.slice h a e)∧Calls Tryz.prog 82 #[(.pointer d),(.int .u64 at_)] m.drew (post R fun v f =>
 ∃(q:Int),v=(.int .i64 q) ∧
 S f∧IdxA h a q 8 fun p =>
 ∃(g:Int),Held S (p.add 2) (.int .i64 g)∧Br (g == (2:Int))
 (R (.returned (.tuple #[(.int .u64 0),(.int .i64 31)])) f)
 (J8 f)))
 (J8 m.drew)))
 (∃S:World→Prop,S m.drew∧NonNil d fun p49 =>
 ∃(i:Option Addr) (c:Nat) (b:Nat),Held S p49 (.slice i c b)∧Calls Tryz.prog 82 #[(.pointer d),(.int .u64 at_)] m.drew (post R fun v f =>
 ∃(j:Int),v=(.int .i64 j) ∧
 S f∧IdxA i c j 8 fun k =>
 ∃(n:Int),Held S (k.add 6) (.int .u64 n)∧R (.returned (.tuple #[(.int .u64 n),(.int .i64 0)])) f))
def F138_j3 (d:Option Addr) (where_:Int) (at_:Int) (a:World) (R:Ending→World→Prop):Prop :=
 ∃J5:World→Prop,(∀ (w1:World),J5 w1→F138_j5 d where_ at_ w1 R) ∧
 (Br (at_ != (0:Int))
 (Calls Tryz.prog 80 #[(.pointer d),(.int .u64 at_)] a (post R fun v w1 =>
 ∃(b:Bool),v=(.bool b) ∧
 Br (!b)
 (R (.returned (.tuple #[(.int .u64 0),(.int .i64 8)])) w1)
 (J5 w1)))
 (J5 a))
def F138 (d:Option Addr) (where_:Int) (at_:Int) (a:World) (R:Ending→World→Prop):Prop :=
 ∃J3:World→Prop,(∀ (w1:World),J3 w1→F138_j3 d where_ at_ w1 R) ∧
 (Br (decide (where_ < (1:Int)))
 (R (.returned (.tuple #[(.int .u64 0),(.int .i64 1)])) a)
 (Br (decide (where_ > (4:Int)))
 (R (.returned (.tuple #[(.int .u64 0),(.int .i64 1)])) a)
 (Br (at_ == (0:Int))
 (Br (decide (where_ > (2:Int)))
 (R (.returned (.tuple #[(.int .u64 0),(.int .i64 1)])) a)
 (J3 a))
 (J3 a))))
theorem ok138 (d:Option Addr) (where_:Int) (at_:Int) {w:World}{R:Ending→World→Prop} (h:F138 d where_ at_ w R):Calls Tryz.prog 138 #[(.pointer d),(.int .i64 where_),(.int .u64 at_)] w R :=
 vc_calls (pl:=⟨58,⟨[]⟩,[(8,⟨[],[(6,47)]⟩),(5,⟨[],[(6,30)]⟩),(3,⟨[],[(6,22)]⟩)],[]⟩) Tryz.func138 (by kernel_rfl) (by kernel_rfl) (by kernel_rfl) (Eq.mp (by kernel_rfl) h)
def F144_j9 (d:Option Addr) (n:Int) (parent:Int) (ea:Option Addr) (q:Nat) (u:Nat) (k:Int) (fa:World) (R:Ending→World→Prop):Prop :=
 Al fa #[] 65 fun g32 b =>
 SlB 0 k ((u:Nat):Int)
 (Raw Tryz.prog (Builtin.append_ #[23,23] 23 #[(.slice (some g32) 0 0),(.slice ea (k).toNat u)]) b fun v2 s =>
 ∃(ba:Option Addr) (e:Nat) (m:Nat),v2=(.slice ba e m) ∧
 Al s #[(.int .u64 n)] 65 fun g38 y =>
 Raw Tryz.prog (Builtin.append_ #[23,23] 23 #[(.slice ba e m),(.slice (some g38) 1 1)]) y fun v3 f =>
 ∃(aa:Option Addr) (c:Nat) (g:Nat),v3=(.slice aa c g) ∧
 SlB k ((q:Nat):Int) ((u:Nat):Int)
 (Raw Tryz.prog (Builtin.append_ #[23,23] 23 #[(.slice aa c g),(.slice (SlA ea u (k).toNat 1) ((((q:Nat):Int)).toNat-(k).toNat) (u-(k).toNat))]) f fun v4 t =>
 ∃(ga:Option Addr) (r:Nat) (j:Nat),v4=(.slice ga r j) ∧
 Calls Tryz.prog 180 #[(.pointer d),(.int .u64 parent),(.slice ga r j)] t (post R fun v5 i =>
 v5=(.tuple #[]) ∧
 ∃S:World→Prop,S i.drew∧NonNil d fun p49 =>
 ∃(da:Option Addr) (h:Nat) (p:Nat),Held S p49 (.slice da h p)∧Calls Tryz.prog 82 #[(.pointer d),(.int .u64 n)] i.drew (post R fun v6 v =>
 ∃(z:Int),v6=(.int .i64 z) ∧
 S v∧IdxA da h z 8 fun ca =>
 St v (ca.add 6) (.int .u64 parent) fun a =>
 R (.returned (.tuple #[])) a))))
def F144 (d:Option Addr) (n:Int) (parent:Int) (where_:Int) (at_:Int) (h:World) (R:Ending→World→Prop):Prop :=
 Calls Tryz.prog 129 #[(.pointer d),(.int .u64 parent)] h (post R fun v w1 =>
 ∃(f:Option Addr) (b:Nat) (a:Nat),v=(.slice f b a) ∧
 ∃J9:Int→World→Prop,(∀(k:Int) (c:World),J9 k c→F144_j9 d n parent f b a k c R) ∧
 (Br (where_ == (2:Int))
 (J9 ((b:Nat):Int) w1)
 (Br (where_ == (3:Int))
 (Calls Tryz.prog 179 #[(.slice f b a),(.int .u64 at_)] w1 (post R fun v2 c =>
 ∃(e:Int),v2=(.int .i64 e) ∧
 J9 e c))
 (Br (where_ == (4:Int))
 (Calls Tryz.prog 179 #[(.slice f b a),(.int .u64 at_)] w1 (post R fun v2 c =>
 ∃(g:Int),v2=(.int .i64 g) ∧
 InR .i64 (g+(1:Int))∧J9 (g+(1:Int)) c))
 (J9 (0:Int) w1)))))
theorem ok144 (d:Option Addr) (n:Int) (parent:Int) (where_:Int) (at_:Int) {w:World}{R:Ending→World→Prop} (h:F144 d n parent where_ at_ w R):Calls Tryz.prog 144 #[(.pointer d),(.int .u64 n),(.int .u64 parent),(.int .i64 where_),(.int .u64 at_)] w R :=
 vc_calls (pl:=⟨58,⟨[]⟩,[(9,⟨[(11,(.s (.int .i64)))],[(11,32)]⟩)],[]⟩) Tryz.func144 (by kernel_rfl) (by kernel_rfl) (by kernel_rfl) (Eq.mp (by kernel_rfl) h)
def F180 (d:Option Addr) (h_:Int) (l:Option Addr) (lN:Nat) (lC:Nat) (i:World) (R:Ending→World→Prop):Prop :=
 Br (h_ == (0:Int))
 (NonNil d fun p10 =>
 St i (p10.add 1) (.slice l lN lC) fun w1 =>
 R (.returned (.tuple #[])) w1)
 (∃S:World→Prop,S i.drew∧NonNil d fun p13 =>
 ∃(f:Option Addr) (b:Nat) (a:Nat),Held S p13 (.slice f b a)∧Calls Tryz.prog 82 #[(.pointer d),(.int .u64 h_)] i.drew (post R fun v e =>
 ∃(h:Int),v=(.int .i64 h) ∧
 S e∧IdxA f b h 8 fun g =>
 St e (g.add 7) (.slice l lN lC) fun c =>
 R (.returned (.tuple #[])) c))
theorem ok180 (d:Option Addr) (h_:Int) (l:Option Addr) (lN:Nat) (lC:Nat) {w:World}{R:Ending→World→Prop} (h:F180 d h_ l lN lC w R):Calls Tryz.prog 180 #[(.pointer d),(.int .u64 h_),(.slice l lN lC)] w R :=
 vc_calls (pl:=⟨22,⟨[]⟩,[],[]⟩) Tryz.func180 (by kernel_rfl) (by kernel_rfl) (by kernel_rfl) (Eq.mp (by kernel_rfl) h)
def F142_j4 (L3:Int→Int→World→Prop) (i:Int) (n2:Int) (a:World) (R:Ending→World→Prop):Prop :=
 InR .i64 (i+(1:Int))∧L3 n2 (i+(1:Int)) a
def F142_l3 (d:Option Addr) (L3:Int→Int→World→Prop) (n:Int) (i:Int) (j:World) (R:Ending→World→Prop):Prop :=
 NonNil d fun p7 =>
 LdSl (j.cell? p7) fun s k p =>
 Br (decide (i < ((k:Nat):Int)))
 (∃J4:Int→World→Prop,(∀(n2:Int) (w1:World),J4 n2 w1→F142_j4 L3 i n2 w1 R) ∧
 (NonNil d fun p15 =>
 LdSl (j.cell? p15) fun g a e =>
 IdxA g a i 8 fun r =>
 LdB (j.cell? (r.add 1)) fun f =>
 Br f
 (InR .i64 (n+(1:Int))∧J4 (n+(1:Int)) j)
 (NonNil d fun p24 =>
 LdSl (j.cell? p24) fun h b c =>
 IdxA h b i 8 fun q =>
 LdI .u32 (j.cell? q) fun m =>
 Br (m == (4294967295:Int))
 (InR .i64 (n+(1:Int))∧J4 (n+(1:Int)) j)
 (J4 n j))))
 (R (.returned (.int .i64 n)) j)
def F142 (d:Option Addr) (a:World) (R:Ending→World→Prop):Prop :=
 ∃(I:Int→Int→World→Prop) (m:Int→Int→World→Nat),I (0:Int) (0:Int) a ∧
 ∀(n:Int) (i:Int) (w1:World),I n i w1→F142_l3 d (fun n' i' w2=>I n' i' w2∧m n' i' w2 < m n i w1) n i w1 R
theorem ok142 (d:Option Addr) {w:World}{R:Ending→World→Prop} (h:F142 d w R):Calls Tryz.prog 142 #[(.pointer d)] w R :=
 vc_calls (pl:=⟨36,⟨[]⟩,[(4,⟨[(3,(.s (.int .i64)))],[(3,4),(14,35)]⟩)],[(3,⟨[(3,(.s (.int .i64))),(4,(.s (.int .i64)))],[(3,35)]⟩)]⟩) Tryz.func142 (by kernel_rfl) (by kernel_rfl) (by kernel_rfl) (Eq.mp (by kernel_rfl) h)
def F145_j3 (n:Int) (h_2:Int) (a:World) (R:Ending→World→Prop):Prop :=
 R (.returned (.bool (h_2 == n))) a
def F145_j2 (d:Option Addr) (L1:Int→World→Prop) (h_2:Int) (h:World) (R:Ending→World→Prop):Prop :=
 ∃S:World→Prop,S h.drew∧NonNil d fun p15 =>
 ∃(e:Option Addr) (a:Nat) (c:Nat),Held S p15 (.slice e a c)∧Calls Tryz.prog 82 #[(.pointer d),(.int .u64 h_2)] h.drew (post R fun v b =>
 ∃(f:Int),v=(.int .i64 f) ∧
 S b∧IdxA e a f 8 fun i =>
 ∃(g:Int),Held S (i.add 6) (.int .u64 g)∧L1 g b)
def F145_l1 (d:Option Addr) (n:Int) (J3:Int→World→Prop) (L1:Int→World→Prop) (h_2:Int) (a:World) (R:Ending→World→Prop):Prop :=
 ∃J2:World→Prop,(∀ (w1:World),J2 w1→F145_j2 d L1 h_2 w1 R) ∧
 (Br (h_2 != (0:Int))
 (Br (h_2 != n)
 (J2 a)
 (J3 h_2 a))
 (J3 h_2 a))
def F145 (d:Option Addr) (h_:Int) (n:Int) (a:World) (R:Ending→World→Prop):Prop :=
 ∃J3:Int→World→Prop,(∀(h_2:Int) (w1:World),J3 h_2 w1→F145_j3 n h_2 w1 R) ∧
 (∃(I:Int→World→Prop) (m:Int→World→Nat),I h_ a ∧
 ∀(h_2:Int) (w1:World),I h_2 w1→F145_l1 d n J3 (fun h_2' w2=>I h_2' w2∧m h_2' w2 < m h_2 w1) h_2 w1 R)
theorem ok145 (d:Option Addr) (h_:Int) (n:Int) {w:World}{R:Ending→World→Prop} (h:F145 d h_ n w R):Calls Tryz.prog 145 #[(.pointer d),(.int .u64 h_),(.int .u64 n)] w R :=
 vc_calls (pl:=⟨27,⟨[]⟩,[(2,⟨[],[(7,14)]⟩),(3,⟨[(1,(.s (.int .u64)))],[(1,2),(7,24)]⟩)],[(1,⟨[(1,(.s (.int .u64)))],[(1,2),(7,24)]⟩)]⟩) Tryz.func145 (by kernel_rfl) (by kernel_rfl) (by kernel_rfl) (Eq.mp (by kernel_rfl) h)
def F139 (x_0:Int) (x_1:ByteArray) (x_2:Option Addr) (x_2N:Nat) (x_2C:Nat) (x_3:ByteArray) (x_4:Option Addr) (x_4N:Nat) (x_4C:Nat) (n:World) (R:Ending→World→Prop):Prop :=
 Al n #[(.int .i64 x_0),(.string x_1),(.slice x_2 x_2N x_2C),(.string x_3),(.slice x_4 x_4N x_4C)] 84 fun g1 w1 =>
 LdI .i64 (w1.cell? g1) fun e =>
 LdStr (w1.cell? (g1.add 1)) fun j =>
 LdSl (w1.cell? (g1.add 2)) fun m c b =>
 LdStr (w1.cell? (g1.add 3)) fun k =>
 LdSl (w1.cell? (g1.add 4)) fun h a d =>
 Calls Tryz.prog 176 #[(.agg #[(.int .i64 e),(.string j),(.slice m c b),(.string k),(.slice h a d)]),(.int .i64 1),(.int .i64 0)] w1 (post R fun v g =>
 ∃(i:Int) (f:Int),v=(.tuple #[(.int .i64 i),(.int .i64 f)]) ∧
 R (.returned (.int .i64 f)) g)
theorem ok139 (x_0:Int) (x_1:ByteArray) (x_2:Option Addr) (x_2N:Nat) (x_2C:Nat) (x_3:ByteArray) (x_4:Option Addr) (x_4N:Nat) (x_4C:Nat) {w:World}{R:Ending→World→Prop} (h:F139 x_0 x_1 x_2 x_2N x_2C x_3 x_4 x_4N x_4C w R):Calls Tryz.prog 139 #[(.agg #[(.int .i64 x_0),(.string x_1),(.slice x_2 x_2N x_2C),(.string x_3),(.slice x_4 x_4N x_4C)])] w R :=
 vc_calls (pl:=⟨11,⟨[]⟩,[],[]⟩) Tryz.func139 (by kernel_rfl) (by kernel_rfl) (by kernel_rfl) (Eq.mp (by kernel_rfl) h)
def F158_j8 (l:Option Addr) (lN:Nat) (L4:Int→World→Prop) (i:Int) (d:World) (R:Ending→World→Prop):Prop :=
 IdxA l lN i 2 fun c =>
 LdStr (d.cell? (c.add 1)) fun e =>
 Calls Tryz.prog 89 #[(.string e)] d (post R fun v w1 =>
 ∃(a:Int) (b:Int),v=(.tuple #[(.int .i64 a),(.int .i64 b)]) ∧
 Br (b != (0:Int))
 (R (.returned (.int .i64 b)) w1)
 (InR .i64 (i+(1:Int))∧L4 (i+(1:Int)) w1))
def F158_l4 (l:Option Addr) (lN:Nat) (L4:Int→World→Prop) (i:Int) (f:World) (R:Ending→World→Prop):Prop :=
 Br (decide (i < ((lN:Nat):Int)))
 (∃J8:World→Prop,(∀ (w1:World),J8 w1→F158_j8 l lN L4 i w1 R) ∧
 (∃S:World→Prop,S f.drew∧IdxA l lN i 2 fun b =>
 ∃(c:ByteArray),Held S b (.string c)∧Calls Tryz.prog 149 #[(.string c)] f.drew (post R fun v a =>
 ∃(e:Bool),v=(.bool e) ∧
 S a∧Br (!e)
 (R (.returned (.int .i64 6)) a)
 (Br (decide (i > (0:Int)))
 (IdxA l lN i 2 fun j =>
 ∃(g:ByteArray),Held S j (.string g)∧InR .i64 (i-(1:Int))∧IdxA l lN (i-(1:Int)) 2 fun d =>
 ∃(h:ByteArray),Held S d (.string h)∧Br ((Op.bytesLess g.toList h.toList) || (g.toList == h.toList))
 (R (.returned (.int .i64 6)) a)
 (J8 a))
 (J8 a)))))
 (R (.returned (.int .i64 0)) f)
def F158 (l:Option Addr) (lN:Nat) (lC:Nat) (a:World) (R:Ending→World→Prop):Prop :=
 Br (decide (((lN:Nat):Int) > (32:Int)))
 (R (.returned (.int .i64 2)) a)
 (∃(I:Int→World→Prop) (m:Int→World→Nat),I (0:Int) a ∧
 ∀(i:Int) (w1:World),I i w1→F158_l4 l lN (fun i' w2=>I i' w2∧m i' w2 < m i w1) i w1 R)
theorem ok158 (l:Option Addr) (lN:Nat) (lC:Nat) {w:World}{R:Ending→World→Prop} (h:F158 l lN lC w R):Calls Tryz.prog 158 #[(.slice l lN lC)] w R :=
 vc_calls (pl:=⟨52,⟨[]⟩,[(8,⟨[],[(2,3),(15,40)]⟩)],[(4,⟨[(3,(.s (.int .i64)))],[(2,52)]⟩)]⟩) Tryz.func158 (by kernel_rfl) (by kernel_rfl) (by kernel_rfl) (Eq.mp (by kernel_rfl) h)
def F176_l9 (deep:Int) (q:Option Addr) (n:Nat) (L9:Int→Int→World→Prop) (n2:Int) (i:Int) (r:World) (R:Ending→World→Prop):Prop :=
 Br (decide (i < ((n:Nat):Int)))
 (IdxA q n i 5 fun s =>
 LdI .i64 (r.cell? s) fun k =>
 LdStr (r.cell? (s.add 1)) fun g =>
 LdSl (r.cell? (s.add 2)) fun f b d =>
 LdStr (r.cell? (s.add 3)) fun e =>
 LdSl (r.cell? (s.add 4)) fun h a c =>
 InR .i64 (deep+(1:Int))∧Calls Tryz.prog 176 #[(.agg #[(.int .i64 k),(.string g),(.slice f b d),(.string e),(.slice h a c)]),(.int .i64 (deep+(1:Int))),(.int .i64 n2)] r (post R fun v3 p =>
 ∃(m:Int) (j:Int),v3=(.tuple #[(.int .i64 m),(.int .i64 j)]) ∧
 Br (j != (0:Int))
 (R (.returned (.tuple #[(.int .i64 m),(.int .i64 j)])) p)
 (InR .i64 (i+(1:Int))∧L9 m (i+(1:Int)) p)))
 (R (.returned (.tuple #[(.int .i64 n2),(.int .i64 0)])) r)
def F176_j3 (deep:Int) (n:Int) (g3:Addr) (ha:World) (R:Ending→World→Prop):Prop :=
 LdI .i64 (ha.cell? g3) fun q =>
 LdStr (ha.cell? (g3.add 1)) fun j =>
 LdSl (ha.cell? (g3.add 2)) fun r c d =>
 LdStr (ha.cell? (g3.add 3)) fun u =>
 LdSl (ha.cell? (g3.add 4)) fun t a e =>
 Calls Tryz.prog 118 #[(.agg #[(.int .i64 q),(.string j),(.slice r c d),(.string u),(.slice t a e)])] ha (post R fun v ba =>
 ∃(fa:Int),v=(.int .i64 fa) ∧
 Br (fa != (0:Int))
 (R (.returned (.tuple #[(.int .i64 n),(.int .i64 fa)])) ba)
 (InR .i64 (n+(1:Int))∧LdI .i64 (ba.cell? g3) fun z =>
 LdStr (ba.cell? (g3.add 1)) fun s =>
 LdSl (ba.cell? (g3.add 2)) fun y f g =>
 LdStr (ba.cell? (g3.add 3)) fun p =>
 LdSl (ba.cell? (g3.add 4)) fun k b h =>
 Calls Tryz.prog 177 #[(.agg #[(.int .i64 z),(.string s),(.slice y f g),(.string p),(.slice k b h)])] ba (post R fun v2 da =>
 ∃(ga:Option Addr) (ca:Nat) (aa:Nat),v2=(.slice ga ca aa) ∧
 ∃(I:Int→Int→World→Prop) (m:Int→Int→World→Nat),I (n+(1:Int)) (0:Int) da ∧
 ∀(n2:Int) (i:Int) (ea:World),I n2 i ea→F176_l9 deep ga ca (fun n2' i' w2=>I n2' i' w2∧m n2' i' w2 < m n2 i ea) n2 i ea R)))
def F176 (x_0:Int) (x_1:ByteArray) (x_2:Option Addr) (x_2N:Nat) (x_2C:Nat) (x_3:ByteArray) (x_4:Option Addr) (x_4N:Nat) (x_4C:Nat) (deep:Int) (n:Int) (b:World) (R:Ending→World→Prop):Prop :=
 Al b #[(.int .i64 x_0),(.string x_1),(.slice x_2 x_2N x_2C),(.string x_3),(.slice x_4 x_4N x_4C)] 84 fun g3 w1 =>
 ∃J3:World→Prop,(∀ (a:World),J3 a→F176_j3 deep n g3 a R) ∧
 (Br (decide (deep > (64:Int)))
 (R (.returned (.tuple #[(.int .i64 n),(.int .i64 2)])) w1)
 (Br (decide (n≥(4096:Int)))
 (R (.returned (.tuple #[(.int .i64 n),(.int .i64 2)])) w1)
 (J3 w1)))
theorem ok176 (x_0:Int) (x_1:ByteArray) (x_2:Option Addr) (x_2N:Nat) (x_2C:Nat) (x_3:ByteArray) (x_4:Option Addr) (x_4N:Nat) (x_4C:Nat) (deep:Int) (n:Int) {w:World}{R:Ending→World→Prop} (h:F176 x_0 x_1 x_2 x_2N x_2C x_3 x_4 x_4N x_4C deep n w R):Calls Tryz.prog 176 #[(.agg #[(.int .i64 x_0),(.string x_1),(.slice x_2 x_2N x_2C),(.string x_3),(.slice x_4 x_4N x_4C)]),(.int .i64 deep),(.int .i64 n)] w R :=
 vc_calls (pl:=⟨51,⟨[]⟩,[(3,⟨[],[(6,19)]⟩)],[(9,⟨[(2,(.s (.int .i64))),(10,(.s (.int .i64)))],[(2,8),(10,50)]⟩)]⟩) Tryz.func176 (by kernel_rfl) (by kernel_rfl) (by kernel_rfl) (Eq.mp (by kernel_rfl) h)
def F179_l2 (l:Option Addr) (lN:Nat) (h_:Int) (L2:Int→World→Prop) (i:Int) (a:World) (R:Ending→World→Prop):Prop :=
 Br (decide (i < ((lN:Nat):Int)))
 (IdxA l lN i 1 fun b =>
 LdI .u64 (a.cell? b) fun c =>
 Br (c == h_)
 (R (.returned (.int .i64 i)) a)
 (InR .i64 (i+(1:Int))∧L2 (i+(1:Int)) a))
 (R (.returned (.int .i64 (-1))) a)
def F179 (l:Option Addr) (lN:Nat) (lC:Nat) (h_:Int) (a:World) (R:Ending→World→Prop):Prop :=
 ∃(I:Int→World→Prop) (m:Int→World→Nat),I (0:Int) a ∧
 ∀(i:Int) (w1:World),I i w1→F179_l2 l lN h_ (fun i' w2=>I i' w2∧m i' w2 < m i w1) i w1 R
theorem ok179 (l:Option Addr) (lN:Nat) (lC:Nat) (h_:Int) {w:World}{R:Ending→World→Prop} (h:F179 l lN lC h_ w R):Calls Tryz.prog 179 #[(.slice l lN lC),(.int .u64 h_)] w R :=
 vc_calls (pl:=⟨19,⟨[]⟩,[],[(2,⟨[(5,(.s (.int .i64)))],[(4,19)]⟩)]⟩) Tryz.func179 (by kernel_rfl) (by kernel_rfl) (by kernel_rfl) (Eq.mp (by kernel_rfl) h)
def F177 (x_0:Int) (x_1:ByteArray) (x_2:Option Addr) (x_2N:Nat) (x_2C:Nat) (x_3:ByteArray) (x_4:Option Addr) (x_4N:Nat) (x_4C:Nat) (c:World) (R:Ending→World→Prop):Prop :=
 Al c #[(.int .i64 x_0),(.string x_1),(.slice x_2 x_2N x_2C),(.string x_3),(.slice x_4 x_4N x_4C)] 84 fun g1 w1 =>
 LdI .i64 (w1.cell? g1) fun e =>
 Br (e == (1:Int))
 (LdSl (w1.cell? (g1.add 4)) fun d b a =>
 R (.returned (.slice d b a)) w1)
 (R (.returned (.slice none 0 0)) w1)
theorem ok177 (x_0:Int) (x_1:ByteArray) (x_2:Option Addr) (x_2N:Nat) (x_2C:Nat) (x_3:ByteArray) (x_4:Option Addr) (x_4N:Nat) (x_4C:Nat) {w:World}{R:Ending→World→Prop} (h:F177 x_0 x_1 x_2 x_2N x_2C x_3 x_4 x_4N x_4C w R):Calls Tryz.prog 177 #[(.agg #[(.int .i64 x_0),(.string x_1),(.slice x_2 x_2N x_2C),(.string x_3),(.slice x_4 x_4N x_4C)])] w R :=
 vc_calls (pl:=⟨8,⟨[]⟩,[],[]⟩) Tryz.func177 (by kernel_rfl) (by kernel_rfl) (by kernel_rfl) (Eq.mp (by kernel_rfl) h)
def F118 (x_0:Int) (x_1:ByteArray) (x_2:Option Addr) (x_2N:Nat) (x_2C:Nat) (x_3:ByteArray) (x_4:Option Addr) (x_4N:Nat) (x_4C:Nat) (m:World) (R:Ending→World→Prop):Prop :=
 Al m #[(.int .i64 x_0),(.string x_1),(.slice x_2 x_2N x_2C),(.string x_3),(.slice x_4 x_4N x_4C)] 84 fun g1 w1 =>
 LdI .i64 (w1.cell? g1) fun n =>
 Br (n == (1:Int))
 (LdStr (w1.cell? (g1.add 1)) fun k =>
 Calls Tryz.prog 149 #[(.string k)] w1 (post R fun v f =>
 ∃(j:Bool),v=(.bool j) ∧
 Br (!j)
 (R (.returned (.int .i64 6)) f)
 (LdSl (f.cell? (g1.add 2)) fun g d c =>
 Calls Tryz.prog 158 #[(.slice g d c)] f (post R fun v2 e =>
 ∃(h:Int),v2=(.int .i64 h) ∧
 R (.returned (.int .i64 h)) e))))
 (Br (n == (2:Int))
 (LdStr (w1.cell? (g1.add 3)) fun i =>
 Calls Tryz.prog 89 #[(.string i)] w1 (post R fun v f =>
 ∃(b:Int) (a:Int),v=(.tuple #[(.int .i64 b),(.int .i64 a)]) ∧
 R (.returned (.int .i64 a)) f))
 (R (.returned (.int .i64 1)) w1))
theorem ok118 (x_0:Int) (x_1:ByteArray) (x_2:Option Addr) (x_2N:Nat) (x_2C:Nat) (x_3:ByteArray) (x_4:Option Addr) (x_4N:Nat) (x_4C:Nat) {w:World}{R:Ending→World→Prop} (h:F118 x_0 x_1 x_2 x_2N x_2C x_3 x_4 x_4N x_4C w R):Calls Tryz.prog 118 #[(.agg #[(.int .i64 x_0),(.string x_1),(.slice x_2 x_2N x_2C),(.string x_3),(.slice x_4 x_4N x_4C)])] w R :=
 vc_calls (pl:=⟨25,⟨[]⟩,[],[]⟩) Tryz.func118 (by kernel_rfl) (by kernel_rfl) (by kernel_rfl) (Eq.mp (by kernel_rfl) h)
def F140_j5 (L4:Int→Int→Int→World→Prop) (i:Int) (n2:Int) (deep2:Int) (a:World) (R:Ending→World→Prop):Prop :=
 InR .i64 (i+(1:Int))∧L4 n2 deep2 (i+(1:Int)) a
def F140_l4 (t:Option Addr) (p:Nat) (L4:Int→Int→Int→World→Prop) (n:Int) (deep:Int) (i:Int) (r:World) (R:Ending→World→Prop):Prop :=
 Br (decide (i < ((p:Nat):Int)))
 (∃J5:Int→Int→World→Prop,(∀(n2:Int) (deep2:Int) (q:World),J5 n2 deep2 q→F140_j5 L4 i n2 deep2 q R) ∧
 (IdxA t p i 5 fun s =>
 LdI .i64 (r.cell? s) fun e =>
 LdStr (r.cell? (s.add 1)) fun h =>
 LdSl (r.cell? (s.add 2)) fun m c a =>
 LdStr (r.cell? (s.add 3)) fun f =>
 LdSl (r.cell? (s.add 4)) fun j d b =>
 Calls Tryz.prog 140 #[(.agg #[(.int .i64 e),(.string h),(.slice m c a),(.string f),(.slice j d b)])] r (post R fun v2 q =>
 ∃(g:Int) (k:Int),v2=(.tuple #[(.int .i64 g),(.int .i64 k)]) ∧
 InR .i64 (n+g)∧Br (decide (k > deep))
 (J5 (n+g) k q)
 (J5 (n+g) deep q))))
 (InR .i64 (deep+(1:Int))∧R (.returned (.tuple #[(.int .i64 n),(.int .i64 (deep+(1:Int)))])) r)
def F140 (x_0:Int) (x_1:ByteArray) (x_2:Option Addr) (x_2N:Nat) (x_2C:Nat) (x_3:ByteArray) (x_4:Option Addr) (x_4N:Nat) (x_4C:Nat) (t:World) (R:Ending→World→Prop):Prop :=
 Al t #[(.int .i64 x_0),(.string x_1),(.slice x_2 x_2N x_2C),(.string x_3),(.slice x_4 x_4N x_4C)] 84 fun g1 w1 =>
 LdI .i64 (w1.cell? g1) fun f =>
 LdStr (w1.cell? (g1.add 1)) fun e =>
 LdSl (w1.cell? (g1.add 2)) fun j c b =>
 LdStr (w1.cell? (g1.add 3)) fun g =>
 LdSl (w1.cell? (g1.add 4)) fun h d a =>
 Calls Tryz.prog 177 #[(.agg #[(.int .i64 f),(.string e),(.slice j c b),(.string g),(.slice h d a)])] w1 (post R fun v q =>
 ∃(s:Option Addr) (k:Nat) (p:Nat),v=(.slice s k p) ∧
 ∃(I:Int→Int→Int→World→Prop) (m:Int→Int→Int→World→Nat),I (1:Int) (0:Int) (0:Int) q ∧
 ∀(n:Int) (deep:Int) (i:Int) (r:World),I n deep i r→F140_l4 s k (fun n' deep' i' w2=>I n' deep' i' w2∧m n' deep' i' w2 < m n deep i r) n deep i r R)
theorem ok140 (x_0:Int) (x_1:ByteArray) (x_2:Option Addr) (x_2N:Nat) (x_2C:Nat) (x_3:ByteArray) (x_4:Option Addr) (x_4N:Nat) (x_4C:Nat) {w:World}{R:Ending→World→Prop} (h:F140 x_0 x_1 x_2 x_2N x_2C x_3 x_4 x_4N x_4C w R):Calls Tryz.prog 140 #[(.agg #[(.int .i64 x_0),(.string x_1),(.slice x_2 x_2N x_2C),(.string x_3),(.slice x_4 x_4N x_4C)])] w R :=
 vc_calls (pl:=⟨36,⟨[]⟩,[(5,⟨[(4,(.s (.int .i64))),(5,(.s (.int .i64)))],[(4,6),(8,33)]⟩)],[(4,⟨[(4,(.s (.int .i64))),(5,(.s (.int .i64))),(7,(.s (.int .i64)))],[(4,6),(7,33)]⟩)]⟩) Tryz.func140 (by kernel_rfl) (by kernel_rfl) (by kernel_rfl) (Eq.mp (by kernel_rfl) h)
end Go.Proofs.YtccplipiahdhiaaGreatDoor
namespace Go.Proofs.YtccplipiahdhiaaGreatDoor
open Go.RowKit Go.Vc
set_option linter.unusedVariables false
set_option linter.unusedSimpArgs false
set_option maxRecDepth 100000
theorem textC {f:FuncId}{s:ByteArray}{w:World}{R:Ending→World→Prop} (hc:Calls Tryz.prog f #[.string s] w fun e w'=>e=.returned (.tuple #[.int .i64 (textS s).1,.int .i64 (textS s).2])∧Below w.heap.size w w')
  (h:∀w',Below w.heap.size w w'→R (.returned (.tuple #[.int .i64 (textS s).1,.int .i64 (textS s).2])) w'):Calls Tryz.prog f #[.string s] w R :=
 hc.mono fun e w' ⟨he,hb⟩=>by rw [he];exact h w' hb
theorem charsText_calls (s:ByteArray) {w:World} (hT:Tabs w) {R:Ending→World→Prop} (h:∀w',Below w.heap.size w w'→R (.returned (.tuple #[.int .i64 (textS s).1,.int .i64 (textS s).2])) w'):Calls Tryz.prog 67 #[.string s] w R:=by
 refine ok67 s ?_
 unfold F67
 exact textC (text_calls s w hT) fun w' hb=>⟨_,_,rfl,h w' hb⟩
theorem refText_calls (s:ByteArray) {w:World}{R:Ending→World→Prop} (h:∀w',Below w.heap.size w w'→R (.returned (.tuple #[.int .i64 (textS s).1,.int .i64 (textS s).2])) w'):Calls Tryz.prog 89 #[.string s] w R :=
 textC (textR_calls s w) h
def behindB (p:Option ByteArray) (a:ByteArray):Bool:=match p with
 | none=>true
 | some b=>!(Op.bytesLess a.toList b.toList || (a.toList == b.toList))
def attrsF:Option ByteArray→List At→Int
 | _,[]=>0
 | p,a :: l=>if isName a.nm=true then if behindB p a.nm=true then if (textS a.val).2=0 then attrsF (some a.nm) l else ((textS a.val).2:Nat) else 6 else 6
def attrF (l:List At):Int:=if 32 < l.length then 2 else attrsF none l
def prevN (l:List At) (k:Nat):Option ByteArray:=if k=0 then none else (l[k-1]?).map (·.nm)
theorem prevN_succ {l:List At}{k:Nat} (h:k < l.length):prevN l (k+1)=some l[k].nm:=by
 unfold prevN;rw [if_neg (by omega),Nat.add_sub_cancel,List.getElem?_eq_getElem h];rfl
theorem attrs_calls (l:List At) (v:Sv) {w:World}{R:Ending→World→Prop} (hT:Tabs w) (hl:RR LAt w l v) (h:∀w',Below w.heap.size w w'→R (.returned (.int .i64 (attrF l))) w') :
  Calls Tryz.prog 186 #[.slice v.1 v.2.1 v.2.2] w R:=by
 obtain⟨z0,z1,z2⟩:=hl
 refine ok186 v.1 v.2.1 v.2.2 ?_
 unfold F186
 unfold attrF at h
 refine brd (fun hgt=>?_) (fun hle=>?_)
 ·rw [if_pos (by omega)] at h;exact h w (Below.refl _ _)
 rw [if_neg (by omega)] at h
 refine⟨fun i w'=>∃k:Nat,i=k∧k≤l.length∧Below w.heap.size w w'∧attrsF (prevN l k) (l.drop k)=attrsF none l,fun i _=>l.length-i.toNat,⟨0,rfl,by omega,Below.refl _ _,by simp [prevN]⟩,?_⟩
 rintro i w1 ⟨k,rfl,hk,hb1,hF⟩
 unfold F186_l4
 refine brd (fun hlt=>?_) (fun hge=>?_)
 ·have hk2:k < l.length:=by omega
  rw [List.drop_eq_getElem_cons hk2,attrsF] at hF
  refine (z2.keep hb1).at2 z1 rfl (k:=k) hk2 fun b o c0 c1=>?_
  simp only [Addr.add_mk,c0,c1,lds]
  refine al fun ga w2 hb2 b2 hge2=>?_
  refine st_blk b2 (by simp) fun w3 b3 f3=>st_blk b3 (by simp) fun w4 b4 f4=>?_
  simp only [List.setIfInBounds_toArray,List.set_cons_zero,List.set_cons_succ] at b4
  have D4:Below w1.heap.size w1 w4:=hb2.trans ((Fm.trans f3 f4:Fm (·=ga) w2 w4).toBelow hb2.size fun b hb e=>by have e:b=ga:=e;omega)
  have B4:=btr hb1 hb1.size D4
  refine⟨fun w'=>Below w4.heap.size w4 w'∧isName l[k].nm=true∧behindB (prevN l k) l[k].nm=true,?_,?_⟩
  ·rintro w5 ⟨hb5,hn,hbh⟩
   unfold F186_j8
   have b5:=b4.keep hb5
   have B5:=btr B4 B4.size hb5
   rw [if_pos hn,if_pos hbh] at hF
   simp only [Addr.add_mk,Nat.zero_add,b5.cell,lds]
   refine charsText_calls l[k].val (hT.keep B5) fun w6 hb6=>⟨_,_,rfl,?_⟩
   have B6:=btr B5 B5.size hb6
   refine brn (fun hne=>?_) (fun he=>?_)
   ·rw [if_neg (by omega)] at hF
    rw [hF];exact h w6 B6
   ·rw [if_pos (by omega)] at hF
    exact⟨inR_i64 (by omega) (by omega),⟨k+1,by simp,by omega,B6,by rw [prevN_succ hk2];exact hF⟩,(by first | omega | (dsimp only;omega))⟩
  ·have hd:Below w4.heap.size w4 w4.drew:=(Below.refl _ _).drew
   refine⟨fun w'=>Below w4.heap.size w4 w',hd,?_⟩
   refine⟨_,fun w2 h2=>by rw [(b4.keep h2).cell];rfl,?_⟩
   refine name_calls ⟨_,rfl,hd,?_⟩
   rw [brnot]
   refine br (fun hn=>?_) (fun hn=>?_)
   ·refine brd (fun hpos=>?_) (fun hz=>?_)
    ·refine⟨_,fun w2 h2=>by rw [(b4.keep h2).cell];rfl,inR_i64 (by omega) (by omega),?_⟩
     refine (z2.keep B4).at2H (fun _ h=>h) z1 (show (k:Int)-1=((k-1:Nat):Int) by omega) (by omega) fun b o d0 d1=>⟨_,d0,?_⟩
     have hpv:prevN l k=some l[k-1].nm:=by unfold prevN;rw [if_neg (by omega),List.getElem?_eq_getElem (by omega)];rfl
     refine br (fun hb=>?_) (fun hb=>⟨hd,hn,by rw [hpv];show (!(_ || _))=true;rw [hb];rfl⟩)
     rw [if_pos hn,if_neg (by rw [hpv];show ¬(!(_ || _))=true;rw [hb];decide)] at hF
     rw [hF];exact h _ (btr B4 B4.size hd)
    ·refine⟨hd,hn,?_⟩
     have:k=0:=by omega
     subst this;simp [prevN,behindB]
   ·rw [if_neg (by rw [hn];decide)] at hF
    rw [hF];exact h _ (btr B4 B4.size hd)
 ·have hk2:k=l.length:=by omega
  subst hk2
  rw [List.drop_length,attrsF] at hF
  rw [hF];exact h w1 hb1
theorem attrs2_calls (l:List At) (v:Sv) {w:World}{R:Ending→World→Prop} (hl:RR LAt w l v) (h:∀w',Below w.heap.size w w'→R (.returned (.int .i64 (attrF l))) w') :
  Calls Tryz.prog 158 #[.slice v.1 v.2.1 v.2.2] w R:=by
 obtain⟨z0,z1,z2⟩:=hl
 refine ok158 v.1 v.2.1 v.2.2 ?_
 unfold F158
 unfold attrF at h
 refine brd (fun hgt=>?_) (fun hle=>?_)
 ·rw [if_pos (by omega)] at h;exact h w (Below.refl _ _)
 rw [if_neg (by omega)] at h
 refine⟨fun i w'=>∃k:Nat,i=k∧k≤l.length∧Below w.heap.size w w'∧attrsF (prevN l k) (l.drop k)=attrsF none l,fun i _=>l.length-i.toNat,⟨0,rfl,by omega,Below.refl _ _,by simp [prevN]⟩,?_⟩
 rintro i w1 ⟨k,rfl,hk,hb1,hF⟩
 unfold F158_l4
 refine brd (fun hlt=>?_) (fun hge=>?_)
 ·have hk2:k < l.length:=by omega
  rw [List.drop_eq_getElem_cons hk2,attrsF] at hF
  refine⟨fun w'=>Below w1.heap.size w1 w'∧isName l[k].nm=true∧behindB (prevN l k) l[k].nm=true,?_,?_⟩
  ·rintro w5 ⟨hb5,hn,hbh⟩
   unfold F158_j8
   have B5:=btr hb1 hb1.size hb5
   rw [if_pos hn,if_pos hbh] at hF
   refine (z2.keep B5).at2 z1 rfl (k:=k) hk2 fun b o c0 c1=>?_
   simp only [Addr.add_mk,c0,c1,lds]
   refine refText_calls l[k].val fun w6 hb6=>⟨_,_,rfl,?_⟩
   have B6:=btr B5 B5.size hb6
   refine brn (fun hne=>?_) (fun he=>?_)
   ·rw [if_neg (by omega)] at hF
    rw [hF];exact h w6 B6
   ·rw [if_pos (by omega)] at hF
    exact⟨inR_i64 (by omega) (by omega),⟨k+1,by simp,by omega,B6,by rw [prevN_succ hk2];exact hF⟩,(by first | omega | (dsimp only;omega))⟩
  ·have hd:Below w1.heap.size w1 w1.drew:=(Below.refl _ _).drew
   refine⟨fun w'=>Below w1.heap.size w1 w',hd,?_⟩
   refine (z2.keep hb1).at2H (fun _ h=>h) z1 rfl (k:=k) hk2 fun b o d0 d1=>⟨_,d0,?_⟩
   refine name2_calls ⟨_,rfl,hd,?_⟩
   rw [brnot]
   refine br (fun hn=>?_) (fun hn=>?_)
   ·refine brd (fun hpos=>?_) (fun hz=>?_)
    ·refine (z2.keep hb1).at2H (fun _ h=>h) z1 rfl (k:=k) hk2 fun b o d0 d1=>⟨_,d0,inR_i64 (by omega) (by omega),?_⟩
     refine (z2.keep hb1).at2H (fun _ h=>h) z1 (show (k:Int)-1=((k-1:Nat):Int) by omega) (by omega) fun b o d0 d1=>⟨_,d0,?_⟩
     have hpv:prevN l k=some l[k-1].nm:=by unfold prevN;rw [if_neg (by omega),List.getElem?_eq_getElem (by omega)];rfl
     refine br (fun hb=>?_) (fun hb=>⟨hd,hn,by rw [hpv];show (!(_ || _))=true;rw [hb];rfl⟩)
     rw [if_pos hn,if_neg (by rw [hpv];show ¬(!(_ || _))=true;rw [hb];decide)] at hF
     rw [hF];exact h _ (btr hb1 hb1.size hd)
    ·refine⟨hd,hn,?_⟩
     have:k=0:=by omega
     subst this;simp [prevN,behindB]
   ·rw [if_neg (by rw [hn];decide)] at hF
    rw [hF];exact h _ (btr hb1 hb1.size hd)
 ·have hk2:k=l.length:=by omega
  subst hk2
  rw [List.drop_length,attrsF] at hF
  rw [hF];exact h w1 hb1
def ownF (kind:Int) (nm:ByteArray) (l:List At) (t:ByteArray):Int:=if kind=1 then if isName nm=true then attrF l else 6 else if kind=2 then ((textS t).2:Nat) else 1
theorem own1_calls (kind:Int) (nm:ByteArray) (l:List At) (v:Sv) (t:ByteArray) (u:Sv) {w:World}{R:Ending→World→Prop} (hT:Tabs w) (hl:RR LAt w l v) (h:∀w',Below w.heap.size w w'→R (.returned (.int .i64 (ownF kind nm l t))) w') :
  Calls Tryz.prog 152 #[.agg #[.int .i64 kind,.string nm,.slice v.1 v.2.1 v.2.2,.string t,.slice u.1 u.2.1 u.2.2]] w R:=by
 refine ok152 kind nm v.1 v.2.1 v.2.2 t u.1 u.2.1 u.2.2 ?_
 unfold F152
 unfold ownF at h
 refine al fun g w1 hb1 b1 hge=>?_
 simp only [Addr.add_mk,Nat.zero_add,b1.cell,lds]
 refine bre (fun hk=>?_) (fun hk=>?_)
 ·rw [if_pos hk] at h
  refine name_calls ⟨_,rfl,?_⟩
  rw [brnot]
  refine br (fun hn=>?_) (fun hn=>?_)
  ·rw [if_pos hn] at h
   simp only [Addr.add_mk,Nat.zero_add,b1.cell,lds]
   exact attrs_calls l v (hT.keep hb1) (hl.keep hb1) fun w2 hb2=>⟨_,rfl,h w2 (btr hb1 hb1.size hb2)⟩
  ·rw [if_neg (by rw [hn];decide)] at h
   exact h w1 hb1
 ·rw [if_neg hk] at h
  refine bre (fun hk2=>?_) (fun hk2=>?_)
  ·rw [if_pos hk2] at h
   exact charsText_calls t (hT.keep hb1) fun w2 hb2=>⟨_,_,rfl,h w2 (btr hb1 hb1.size hb2)⟩
  ·rw [if_neg hk2] at h
   exact h w1 hb1
theorem own2_calls (kind:Int) (nm:ByteArray) (l:List At) (v:Sv) (t:ByteArray) (u:Sv) {w:World}{R:Ending→World→Prop} (hl:RR LAt w l v) (h:∀w',Below w.heap.size w w'→R (.returned (.int .i64 (ownF kind nm l t))) w') :
  Calls Tryz.prog 118 #[.agg #[.int .i64 kind,.string nm,.slice v.1 v.2.1 v.2.2,.string t,.slice u.1 u.2.1 u.2.2]] w R:=by
 refine ok118 kind nm v.1 v.2.1 v.2.2 t u.1 u.2.1 u.2.2 ?_
 unfold F118
 unfold ownF at h
 refine al fun g w1 hb1 b1 hge=>?_
 simp only [Addr.add_mk,Nat.zero_add,b1.cell,lds]
 refine bre (fun hk=>?_) (fun hk=>?_)
 ·rw [if_pos hk] at h
  refine name2_calls ⟨_,rfl,?_⟩
  rw [brnot]
  refine br (fun hn=>?_) (fun hn=>?_)
  ·rw [if_pos hn] at h
   simp only [Addr.add_mk,Nat.zero_add,b1.cell,lds]
   exact attrs2_calls l v (hl.keep hb1) fun w2 hb2=>⟨_,rfl,h w2 (btr hb1 hb1.size hb2)⟩
  ·rw [if_neg (by rw [hn];decide)] at h
   exact h w1 hb1
 ·rw [if_neg hk] at h
  refine bre (fun hk2=>?_) (fun hk2=>?_)
  ·rw [if_pos hk2] at h
   exact refText_calls t fun w2 hb2=>⟨_,_,rfl,h w2 (btr hb1 hb1.size hb2)⟩
  ·rw [if_neg hk2] at h
   exact h w1 hb1
set_option maxRecDepth 100000
theorem nodup_sub {α:Type} [DecidableEq α]:∀{a b:List α},a.Nodup→(∀x∈a,x∈b)→a.length≤b.length
 | [],_,_,_=>by simp
 | x :: a,b,h,hs=>by
  have h2:=List.nodup_cons.1 h
  have hx:x∈b:=hs x (by simp)
  have ih:=nodup_sub (b:=b.erase x) h2.2 fun y hy=>by
   have hne:y≠x:=fun e=>h2.1 (e ▸ hy)
   exact (List.mem_erase_of_ne hne).2 (hs y (by simp [hy]))
  rw [List.length_erase_of_mem hx] at ih
  have:0 < b.length:=List.length_pos_of_mem hx
  rw [List.length_cons];omega
def noB:ByteArray:=⟨#[]⟩
theorem rr_nil {α:Type}{L:Lay α}{w:World}:RR L w [] (none,0,0):=⟨by simp,rfl,⟨by simp,by simp [maxLen],fun _=>rfl,fun h=>by simp at h⟩⟩
def newOr (ok:Nat→Bool) (k:Nat) (w:World):World:=wOnly (fun b=>ok b || Nat.ble k b) w
theorem old_but {w w':World}{g:Nat} (hb:Below w.heap.size w w') (hg:w.heap.size≤g):Sub w (but g w'):=fun b c t fr hc=>by
 have hlt:=(Array.getElem?_eq_some_iff.1 hc).1
 have hne:Nat.beq b g=false:=by
  cases h:Nat.beq b g with
  | false=>rfl
  | true=>have:=Nat.eq_of_beq_eq_true h;omega
 exact cells_only (by rw [hne];rfl) (by rw [hb.block b hlt];exact hc)
--PURE
inductive Tr where
 | mk (kind:Int) (nm:ByteArray) (attrs:List At) (text:ByteArray) (kids:List Tr)
def slA (sl:List Sl) (h:Nat):Option Sl:=(atF sl h).bind (sl[·]?)
theorem atF_iff {sl:List Sl}{h k:Nat}:atF sl h=some k↔h % 4294967296=k+1∧∃s,sl[k]?=some s∧s.live=true∧hnd s.gen k=h:=by
 unfold atF
 constructor
 ·intro e
  by_cases h0:h % 4294967296=0
  ·rw [if_pos h0] at e;cases e
  ·rw [if_neg h0] at e
   cases hs:sl[h % 4294967296-1]? with
   | none=>rw [hs] at e;cases e
   | some s =>
    rw [hs] at e
    simp only at e
    by_cases hc:s.live=true∧hnd s.gen (h % 4294967296-1)=h
    ·rw [if_pos hc] at e
     cases e
     exact⟨by omega,s,hs,hc.1,hc.2⟩
    ·rw [if_neg hc] at e;cases e
 ·rintro ⟨h1,s,h2,h3,h4⟩
  rw [if_neg (by omega),h1,Nat.add_sub_cancel,h2]
  simp only
  rw [if_pos ⟨h3,h4⟩]
theorem slA_iff {sl:List Sl}{h:Nat}{s:Sl}:slA sl h=some s↔∃k,h % 4294967296=k+1∧sl[k]?=some s∧s.live=true∧hnd s.gen k=h:=by
 unfold slA
 constructor
 ·intro e
  cases ha:atF sl h with
  | none=>rw [ha] at e;cases e
  | some k =>
   rw [ha] at e
   obtain⟨h1,t,h2,h3,h4⟩:=atF_iff.1 ha
   have:sl[k]?=some s:=e
   rw [h2] at this;cases this
   exact⟨k,h1,h2,h3,h4⟩
 ·rintro ⟨k,h1,h2,h3,h4⟩
  rw [atF_iff.2 ⟨h1,s,h2,h3,h4⟩];exact h2
theorem hnd_mod {g k:Nat} (hk:k+1 < 4294967296):hnd g k % 4294967296=k+1:=by
 unfold hnd;omega
theorem slA_hnd {sl:List Sl}{k:Nat}{s:Sl} (hk:k+1 < 4294967296) (h:sl[k]?=some s) (hl:s.live=true):slA sl (hnd s.gen k)=some s :=
 slA_iff.2 ⟨k,hnd_mod hk,h,hl,rfl⟩
theorem slA_zero (sl:List Sl):slA sl 0=none:=by
 cases h:slA sl 0 with
 | none=>rfl
 | some s=>obtain⟨k,h1,-⟩:=slA_iff.1 h;simp at h1
theorem slA_at {sl:List Sl}{h k:Nat}{s:Sl} (ha:atF sl h=some k) (hs:sl[k]?=some s):slA sl h=some s:=by unfold slA;rw [ha];exact hs
theorem atF_slA {sl:List Sl}{h:Nat}{s:Sl} (hs:slA sl h=some s):∃k,atF sl h=some k∧sl[k]?=some s:=by
 obtain⟨k,h1,h2,h3,h4⟩:=slA_iff.1 hs
 exact⟨k,atF_iff.2 ⟨h1,s,h2,h3,h4⟩,h2⟩
theorem atF_none {sl:List Sl}{h:Nat}:atF sl h=none↔slA sl h=none:=by
 constructor
 ·intro e;unfold slA;rw [e];rfl
 ·intro e
  cases ha:atF sl h with
  | none=>rfl
  | some k =>
   obtain⟨h1,s,h2,h3,h4⟩:=atF_iff.1 ha
   rw [slA_at ha h2] at e;cases e
theorem slA_set {sl:List Sl}{h:Nat}{s s':Sl}{k:Nat} (hk:h % 4294967296=k+1) (hs:slA sl h=some s) (hg:s'.gen=s.gen) (hl:s'.live=true) (x:Nat) :
  slA (sl.set k s') x=if x=h then some s' else slA sl x:=by
 obtain⟨k',h1,h2,h3,h4⟩:=slA_iff.1 hs
 obtain rfl:k'=k:=by omega
 have hlt:k' < sl.length:=(List.getElem?_eq_some_iff.1 h2).1
 by_cases e:x=h
 ·subst e
  rw [if_pos rfl]
  exact slA_iff.2 ⟨k',h1,by simp [hlt],hl,by rw [hg];exact h4⟩
 ·rw [if_neg e]
  cases hx:slA sl x with
  | none =>
   cases hy:slA (sl.set k' s') x with
   | none=>rfl
   | some t =>
    obtain⟨j,j1,j2,j3,j4⟩:=slA_iff.1 hy
    by_cases ej:k'=j
    ·subst ej
     rw [List.getElem?_set_self hlt] at j2
     cases j2
     rw [hg,h4] at j4;exact absurd j4.symm e
    ·rw [List.getElem?_set_ne ej] at j2
     rw [slA_iff.2 ⟨j,j1,j2,j3,j4⟩] at hx;cases hx
  | some t =>
   obtain⟨j,j1,j2,j3,j4⟩:=slA_iff.1 hx
   refine slA_iff.2 ⟨j,j1,?_,j3,j4⟩
   rw [List.getElem?_set_ne,j2]
   rintro rfl
   rw [h2] at j2;cases j2
   exact e (j4.symm.trans h4)
def lstA (A:Nat→Option Sl) (roots:List Nat) (p:Nat):List Nat:=if p=0 then roots else match A p with | some s=>s.kids | none=>[]
inductive Ch (A:Nat→Option Sl):Nat→Nat→Prop where
 | zero:Ch A 0 0
 | succ {h c:Nat}{s:Sl}:h≠0→A h=some s→Ch A s.parent c→Ch A h (c+1)
theorem Ch.fn {A:Nat→Option Sl}{h c d:Nat} (h1:Ch A h c) (h2:Ch A h d):c=d:=by
 induction h1 generalizing d with
 | zero=>cases h2 with
  | zero=>rfl
  | succ h0=>exact absurd rfl h0
 | succ h0 ha _ ih=>cases h2 with
  | zero=>exact absurd rfl h0
  | succ _ hb hc=>rw [ha] at hb;cases hb;rw [ih hc]
theorem Ch.mono {A B:Nat→Option Sl}{h c:Nat} (hk:∀x s,A x=some s→∃t,B x=some t∧t.parent=s.parent) (h1:Ch A h c):Ch B h c:=by
 induction h1 with
 | zero=>exact .zero
 | succ h0 ha _ ih =>
  obtain⟨t,h2,h3⟩:=hk _ _ ha
  exact .succ h0 h2 (by rw [h3];exact ih)
inductive Wi (A:Nat→Option Sl) (h:Nat):Nat→Prop where
 | self:Wi A h h
 | up {x:Nat}{s:Sl}:A x=some s→Wi A h s.parent→Wi A h x
def updA (A:Nat→Option Sl) (h:Nat) (s:Option Sl):Nat→Option Sl:=fun x=>if x=h then s else A x
theorem updA_self (A:Nat→Option Sl) (h:Nat) (s:Option Sl):updA A h s h=s:=by unfold updA;rw [if_pos rfl]
theorem updA_ne {A:Nat→Option Sl}{h x:Nat}{s:Option Sl} (e:x≠h):updA A h s x=A x:=by unfold updA;rw [if_neg e]
def okSl (s:Sl):Prop:=ownF s.kind s.nm s.attrs s.text=0∧(s.kind=1∧s.text=noB∨s.kind=2∧s.nm=noB∧s.attrs=[]∧s.kids=[])
structure WfA (A:Nat→Option Sl) (roots loose:List Nat):Prop where
 zero:A 0=none
 ok:∀h s,A h=some s→okSl s
 par:∀h s,A h=some s→s.parent=0∨∃t,A s.parent=some t∧t.kind=1
 chain:∀h s,A h=some s→∃c,c≤64∧Ch A h c
 kid:∀h s,A h=some s→s.kids.Nodup∧∀x∈s.kids,x∉loose∧∃t,A x=some t∧t.parent=h
 root:roots.Nodup∧∀x∈roots,x∉loose∧∃t,A x=some t∧t.parent=0
 mem:∀h s,A h=some s→h∉loose→h∈lstA A roots s.parent
 lo:∀h∈loose,∃s,A h=some s
section
variable {A:Nat→Option Sl}{roots loose:List Nat}
theorem WfA.lst (h:WfA A roots loose) (p:Nat):(lstA A roots p).Nodup∧∀x∈lstA A roots p,x∉loose∧∃t,A x=some t∧t.parent=p:=by
 unfold lstA
 by_cases h0:p=0
 ·subst h0;rw [if_pos rfl];exact h.root
 ·rw [if_neg h0]
  cases ha:A p with
  | none=>simp
  | some s=>exact h.kid p s ha
theorem lstA_some {p:Nat}{s:Sl} (h0:p≠0) (h:A p=some s):lstA A roots p=s.kids:=by unfold lstA;rw [if_neg h0,h]
theorem lstA_zero:lstA A roots 0=roots:=by unfold lstA;rw [if_pos rfl]
theorem WfA.ne0 (h:WfA A roots loose) {x:Nat}{s:Sl} (hx:A x=some s):x≠0:=fun e=>by subst e;rw [h.zero] at hx;cases hx
theorem WfA.fresh (h:WfA A roots loose) {n p c:Nat}{s:Sl} (h0:n≠0) (hn:A n=none) (hs:okSl s) (hk:s.kids=[]) (hp:s.parent=p) (hpk:p=0∨∃t,A p=some t∧t.kind=1) (hc:Ch A p c) (hc2:c+1≤64) :
  WfA (updA A n (some s)) roots (n :: loose):=by
 have hext:∀x t,A x=some t→updA A n (some s) x=some t:=fun x t hx=>by
  rw [updA_ne];exact hx
  rintro rfl;rw [hn] at hx;cases hx
 have hext2:∀x t,A x=some t→∃u,updA A n (some s) x=some u∧u.parent=t.parent:=fun x t hx=>⟨t,hext x t hx,rfl⟩
 have hold:∀x t,updA A n (some s) x=some t→(x=n∧t=s)∨A x=some t:=fun x t hx=>by
  by_cases e:x=n
  ·subst e;rw [updA_self] at hx;cases hx;exact .inl ⟨rfl,rfl⟩
  ·rw [updA_ne e] at hx;exact .inr hx
 have hpar:∀q,(q=0∨∃t,A q=some t∧t.kind=1)→(q=0∨∃t,updA A n (some s) q=some t∧t.kind=1):=fun q hq=>by
  rcases hq with hq | ⟨t,h1,h2⟩
  ·exact .inl hq
  ·exact .inr ⟨t,hext _ _ h1,h2⟩
 refine⟨by rw [updA_ne (Ne.symm h0)];exact h.zero,fun x t hx=>?_,fun x t hx=>?_,fun x t hx=>?_,fun x t hx=>?_,⟨h.root.1,fun x hx=>?_⟩,fun x t hx hl=>?_,fun x hx=>?_⟩
 rotate_right
 ·rcases List.mem_cons.1 hx with rfl | hx
  ·exact⟨s,updA_self _ _ _⟩
  ·obtain⟨t,ht⟩:=h.lo x hx
   exact⟨t,hext _ _ ht⟩
 ·rcases hold x t hx with ⟨rfl,rfl⟩ | hx
  ·exact hs
  ·exact h.ok x t hx
 ·rcases hold x t hx with ⟨rfl,rfl⟩ | hx
  ·rw [hp];exact hpar _ hpk
  ·exact hpar _ (h.par x t hx)
 ·rcases hold x t hx with ⟨rfl,rfl⟩ | hx
  ·exact⟨c+1,hc2,.succ h0 (updA_self _ _ _) (by rw [hp];exact hc.mono hext2)⟩
  ·obtain⟨d,h1,h2⟩:=h.chain x t hx
   exact⟨d,h1,h2.mono hext2⟩
 ·rcases hold x t hx with ⟨rfl,rfl⟩ | hx
  ·rw [hk];simp
  ·obtain⟨h1,h2⟩:=h.kid x t hx
   refine⟨h1,fun y hy=>?_⟩
   obtain⟨h3,u,h4,h5⟩:=h2 y hy
   refine⟨?_,u,hext _ _ h4,h5⟩
   simp only [List.mem_cons,not_or]
   exact⟨fun e=>(by subst e;rw [hn] at h4;cases h4),h3⟩
 ·obtain⟨h3,u,h4,h5⟩:=h.root.2 x hx
  refine⟨?_,u,hext _ _ h4,h5⟩
  simp only [List.mem_cons,not_or]
  exact⟨fun e=>(by subst e;rw [hn] at h4;cases h4),h3⟩
 ·simp only [List.mem_cons,not_or] at hl
  rcases hold x t hx with ⟨rfl,rfl⟩ | hx
  ·exact absurd rfl hl.1
  ·have h1:=h.mem x t hx hl.2
   rcases h.par x t hx with h2 | ⟨u,h2,-⟩
   ·rw [h2,lstA_zero] at h1 ⊢;exact h1
   ·rw [lstA_some (h.ne0 h2) h2] at h1
    rw [lstA_some (h.ne0 h2) (hext _ _ h2)];exact h1
def setA (A:Nat→Option Sl) (p:Nat) (l:List Nat):Nat→Option Sl:=fun x=>if x=p∧p≠0 then (A x).map fun s=>{ s with kids:=l } else A x
def setR (roots:List Nat) (p:Nat) (l:List Nat):List Nat:=if p=0 then l else roots
theorem setA_some {p x:Nat}{l:List Nat}{t:Sl} (h:setA A p l x=some t):∃s,A x=some s∧t=(if x=p∧p≠0 then { s with kids:=l } else s):=by
 unfold setA at h
 by_cases e:x=p∧p≠0
 ·rw [if_pos e] at h
  obtain⟨s,h1,h2⟩:=Option.map_eq_some_iff.1 h
  exact⟨s,h1,by rw [if_pos e];exact h2.symm⟩
 ·rw [if_neg e] at h
  exact⟨t,h,by rw [if_neg e]⟩
theorem setA_of {p x:Nat}{l:List Nat}{s:Sl} (h:A x=some s):setA A p l x=some (if x=p∧p≠0 then { s with kids:=l } else s):=by
 unfold setA
 by_cases e:x=p∧p≠0
 ·rw [if_pos e,if_pos e,h];rfl
 ·rw [if_neg e,if_neg e,h]
theorem setA_of' {p x:Nat}{l:List Nat}{s:Sl} (h:A x=some s):∃t,setA A p l x=some t∧t.parent=s.parent∧t.kind=s.kind:=by
 refine⟨_,setA_of h,?_,?_⟩ <;> split <;> rfl
theorem lst_setA {p q:Nat}{l:List Nat} (hq:q=0∨∃s,A q=some s) (h0:A 0=none):lstA (setA A p l) (setR roots p l) q=if q=p then l else lstA A roots q:=by
 unfold lstA setR
 by_cases e:q=0
 ·subst e
  rw [if_pos rfl]
  by_cases e2:p=0
  ·subst e2;simp
  ·rw [if_neg e2,if_neg (Ne.symm e2),if_pos rfl]
 ·rw [if_neg e,if_neg e]
  rcases hq with hq | ⟨s,hs⟩
  ·exact absurd hq e
  ·rw [setA_of hs,hs]
   simp only
   by_cases e2:q=p
   ·subst e2;rw [if_pos ⟨rfl,e⟩,if_pos rfl]
   ·rw [if_neg (fun h=>e2 h.1),if_neg e2]
theorem WfA.setL (h:WfA A roots loose) {p:Nat}{l:List Nat}{loose':List Nat} (hp:p=0∨∃t,A p=some t∧t.kind=1) (hn:l.Nodup) (hl:∀x∈l,x∉loose'∧∃t,A x=some t∧t.parent=p)
  (hm:∀x s,A x=some s→s.parent=p→x∉loose'→x∈l) (ho:∀x s,A x=some s→s.parent≠p→(x∈loose'↔x∈loose)) (hlo:∀x∈loose',∃s,A x=some s):WfA (setA A p l) (setR roots p l) loose':=by
 have hpe:∀q,(q=0∨∃t,A q=some t∧t.kind=1)→(q=0∨∃t,setA A p l q=some t∧t.kind=1):=fun q hq=>by
  rcases hq with hq | ⟨t,h1,h2⟩
  ·exact .inl hq
  ·obtain⟨u,h3,h4,h5⟩:=setA_of' (p:=p) (l:=l) h1
   exact .inr ⟨u,h3,by rw [h5,h2]⟩
 have hch:∀x s,A x=some s→∃t,setA A p l x=some t∧t.parent=s.parent:=fun x s hx=>by
  obtain⟨u,h3,h4,h5⟩:=setA_of' (p:=p) (l:=l) hx
  exact⟨u,h3,h4⟩
 refine⟨by unfold setA;rw [if_neg (by rintro ⟨e,h2⟩;exact h2 e.symm)];exact h.zero,fun x t hx=>?_,fun x t hx=>?_,fun x t hx=>?_,fun x t hx=>?_,?_,fun x t hx hlo=>?_,fun x hx=>?_⟩
 rotate_right
 ·obtain⟨s,hs⟩:=hlo x hx
  exact⟨_,setA_of hs⟩
 ·obtain⟨s,h1,rfl⟩:=setA_some hx
  have h2:=h.ok x s h1
  split
  ·rename_i e
   rcases hp with hp | ⟨t,h3,h4⟩
   ·exact absurd hp e.2
   ·rw [←e.1,h1] at h3;cases h3
    obtain⟨h5,h6⟩:=h2
    refine⟨h5,.inl ⟨h4,?_⟩⟩
    rcases h6 with h6 | h6
    ·exact h6.2
    ·rw [h4] at h6;exact absurd h6.1 (by decide)
  ·exact h2
 ·obtain⟨s,h1,rfl⟩:=setA_some hx
  have:(if x=p∧p≠0 then { s with kids:=l } else s).parent=s.parent:=by split <;> rfl
  rw [this]
  exact hpe _ (h.par x s h1)
 ·obtain⟨s,h1,rfl⟩:=setA_some hx
  obtain⟨c,h2,h3⟩:=h.chain x s h1
  exact⟨c,h2,h3.mono hch⟩
 ·obtain⟨s,h1,rfl⟩:=setA_some hx
  split
  ·rename_i e
   refine⟨hn,fun y hy=>?_⟩
   obtain⟨h3,u,h4,h5⟩:=hl y hy
   obtain⟨v,h6,h7⟩:=hch y u h4
   exact⟨h3,v,h6,by rw [h7,h5,e.1]⟩
  ·rename_i e
   obtain⟨h2,h3⟩:=h.kid x s h1
   refine⟨h2,fun y hy=>?_⟩
   obtain⟨h4,u,h5,h6⟩:=h3 y hy
   obtain⟨v,h7,h8⟩:=hch y u h5
   refine⟨fun hy2=>h4 ((ho y u h5 ?_).1 hy2),v,h7,by rw [h8,h6]⟩
   rw [h6]
   rintro rfl
   exact e ⟨rfl,h.ne0 h1⟩
 ·unfold setR
  split
  ·rename_i e
   refine⟨hn,fun y hy=>?_⟩
   obtain⟨h3,u,h4,h5⟩:=hl y hy
   obtain⟨v,h6,h7⟩:=hch y u h4
   exact⟨h3,v,h6,by rw [h7,h5,e]⟩
  ·rename_i e
   refine⟨h.root.1,fun y hy=>?_⟩
   obtain⟨h4,u,h5,h6⟩:=h.root.2 y hy
   obtain⟨v,h7,h8⟩:=hch y u h5
   exact⟨fun hy2=>h4 ((ho y u h5 (by rw [h6];exact Ne.symm e)).1 hy2),v,h7,by rw [h8,h6]⟩
 ·obtain⟨s,h1,rfl⟩:=setA_some hx
  have hpe2:(if x=p∧p≠0 then { s with kids:=l } else s).parent=s.parent:=by split <;> rfl
  rw [hpe2]
  rw [lst_setA ((h.par x s h1).imp id fun⟨t,h2,_⟩=>⟨t,h2⟩) h.zero]
  by_cases e:s.parent=p
  ·rw [if_pos e];exact hm x s h1 e hlo
  ·rw [if_neg e];exact h.mem x s h1 fun h2=>hlo ((ho x s h1 e).2 h2)
theorem WfA.node (h:WfA A roots loose) {n:Nat}{s s':Sl} (hn:A n=some s) (hs:okSl s') (h1:s'.parent=s.parent) (h2:s'.kids=s.kids) (h3:s'.kind=s.kind):WfA (updA A n (some s')) roots loose:=by
 have hold:∀x t,updA A n (some s') x=some t→∃u,A x=some u∧t.parent=u.parent∧t.kids=u.kids∧t.kind=u.kind∧okSl t:=fun x t hx=>by
  by_cases e:x=n
  ·subst e;rw [updA_self] at hx;cases hx;exact⟨s,hn,h1,h2,h3,hs⟩
  ·rw [updA_ne e] at hx;exact⟨t,hx,rfl,rfl,rfl,h.ok x t hx⟩
 have hnew:∀x u,A x=some u→∃t,updA A n (some s') x=some t∧t.parent=u.parent∧t.kids=u.kids∧t.kind=u.kind:=fun x u hx=>by
  by_cases e:x=n
  ·subst e;rw [hn] at hx;cases hx;exact⟨s',updA_self _ _ _,h1,h2,h3⟩
  ·exact⟨u,by rw [updA_ne e];exact hx,rfl,rfl,rfl⟩
 refine⟨?_,fun x t hx=>?_,fun x t hx=>?_,fun x t hx=>?_,fun x t hx=>?_,⟨h.root.1,fun x hx=>?_⟩,fun x t hx hlo=>?_,fun x hx=>?_⟩
 rotate_right
 ·obtain⟨t,ht⟩:=h.lo x hx
  obtain⟨u,hu,_⟩:=hnew x t ht
  exact⟨u,hu⟩
 ·rw [updA_ne (Ne.symm (h.ne0 hn))];exact h.zero
 ·obtain⟨u,k1,k2,k3,k4,k5⟩:=hold x t hx;exact k5
 ·obtain⟨u,k1,k2,k3,k4,k5⟩:=hold x t hx
  rw [k2]
  rcases h.par x u k1 with k6 | ⟨v,k6,k7⟩
  ·exact .inl k6
  ·obtain⟨y,y1,y2,y3,y4⟩:=hnew _ _ k6
   exact .inr ⟨y,y1,by rw [y4,k7]⟩
 ·obtain⟨u,k1,k2,k3,k4,k5⟩:=hold x t hx
  obtain⟨c,c1,c2⟩:=h.chain x u k1
  exact⟨c,c1,c2.mono fun y v hy=>by obtain⟨z,z1,z2,_⟩:=hnew y v hy;exact⟨z,z1,z2⟩⟩
 ·obtain⟨u,k1,k2,k3,k4,k5⟩:=hold x t hx
  obtain⟨m1,m2⟩:=h.kid x u k1
  rw [k3]
  refine⟨m1,fun y hy=>?_⟩
  obtain⟨q1,v,q2,q3⟩:=m2 y hy
  obtain⟨z,z1,z2,_⟩:=hnew y v q2
  exact⟨q1,z,z1,by rw [z2,q3]⟩
 ·obtain⟨q1,v,q2,q3⟩:=h.root.2 x hx
  obtain⟨z,z1,z2,_⟩:=hnew x v q2
  exact⟨q1,z,z1,by rw [z2,q3]⟩
 ·obtain⟨u,k1,k2,k3,k4,k5⟩:=hold x t hx
  have k6:=h.mem x u k1 hlo
  rw [k2]
  rcases h.par x u k1 with k7 | ⟨v,k7,-⟩
  ·rw [k7,lstA_zero] at k6 ⊢;exact k6
  ·rw [lstA_some (h.ne0 k7) k7] at k6
   obtain⟨y,y1,y2,y3,y4⟩:=hnew _ _ k7
   rw [lstA_some (h.ne0 k7) y1,y3];exact k6
end
--PURE
theorem Tr.ind {M:Tr→Prop} (h:∀kind nm attrs text kids,(∀k∈kids,M k)→M (.mk kind nm attrs text kids)):∀t,M t:=by
 intro t
 refine Tr.rec (motive_1:=M) (motive_2:=fun ks=>∀k∈ks,M k) (fun kind nm attrs text ks ih=>h kind nm attrs text ks ih) (fun k hk=>by simp at hk) (fun a l h1 h2 k hk=>?_) t
 rcases List.mem_cons.1 hk with rfl | hk
 ·exact h1
 ·exact h2 k hk
mutual
def szT:Tr→Nat
 | .mk kind _ _ _ kids=>if kind=2 then 1 else 1+szL kids
def szL:List Tr→Nat
 | []=>0
 | x :: l=>szT x+szL l
end
mutual
def dpT:Tr→Nat
 | .mk kind _ _ _ kids=>if kind=2 then 1 else 1+dpL kids
def dpL:List Tr→Nat
 | []=>0
 | x :: l=>max (dpT x) (dpL l)
end
mutual
def okT:Tr→Prop
 | .mk kind nm attrs text kids=>ownF kind nm attrs text=0∧(kind=1∨kind=2)∧(kind=1→okL kids)
def okL:List Tr→Prop
 | []=>True
 | x :: l=>okT x∧okL l
end
theorem szT_pos:∀x:Tr,1≤szT x
 | .mk kind _ _ _ kids=>by unfold szT;split <;> omega
theorem dpT_pos:∀x:Tr,1≤dpT x
 | .mk kind _ _ _ kids=>by unfold dpT;split <;> omega
theorem szL_snoc (l:List Tr) (x:Tr):szL (l++[x])=szL l+szT x:=by
 induction l with
 | nil=>simp [szL]
 | cons y l ih=>simp only [List.cons_append,szL,ih];omega
mutual
def lookF:Tr→Nat→Nat→Nat × Int
 | .mk kind nm attrs text kids,deep,n =>
  if 64 < deep∨4096≤n then (n,2) else if ownF kind nm attrs text≠0 then (n,ownF kind nm attrs text) else if kind=2 then (n+1,0) else looksF kids (deep+1) (n+1)
def looksF:List Tr→Nat→Nat→Nat × Int
 | [],_,n=>(n,0)
 | x :: l,deep,n=>if (lookF x deep n).2≠0 then lookF x deep n else looksF l deep (lookF x deep n).1
end
def freeI (sl:List Sl):Nat:=sl.findIdx fun s=>!s.live && decide (s.gen < 4294967295)
def deadS (g:Nat):Sl:=⟨g,false,0,noB,[],noB,0,[]⟩
def roomF (sl:List Sl):List Sl:=if freeI sl < sl.length then sl else sl++[deadS 0]
def genI (sl:List Sl):Nat:=match (roomF sl)[freeI sl]? with | some s=>s.gen+1 | none=>0
def freshH (sl:List Sl):Nat:=hnd (genI sl) (freeI sl)
mutual
def makeF:Tr→Nat→List Sl→List Sl
 | .mk kind nm attrs text kids,p,sl =>
  if kind=2 then (roomF sl).set (freeI sl) ⟨genI sl,true,kind,noB,[],text,p,[]⟩
  else makesF kids (freshH sl) (freeI sl) ((roomF sl).set (freeI sl) ⟨genI sl,true,kind,nm,attrs,noB,p,[]⟩)
def makesF:List Tr→Nat→Nat→List Sl→List Sl
 | [],_,_,sl=>sl
 | x :: l,h,i,sl=>makesF l h i ((makeF x h sl).modify i fun s=>{ s with kids:=s.kids++[freshH sl] })
end
structure WfS (sl:List Sl):Prop where
 few:sl.length≤4096
 gen:∀s∈sl,s.gen < 4294967296
 dead:∀s∈sl,s.live=false→s=deadS s.gen
 live:∀s∈sl,s.live=true→1≤s.gen
def tk (sl:List Sl):Nat:=(sl.filter fun s=>s.live || decide (4294967295≤s.gen)).length
section
variable {sl:List Sl}
theorem freeI_lt (h:freeI sl < sl.length):∃s,sl[freeI sl]?=some s∧s.live=false∧s.gen < 4294967295:=by
 have h1:=List.findIdx_getElem (w:=h)
 refine⟨sl[freeI sl],List.getElem?_eq_getElem h,?_⟩
 unfold freeI
 simpa using h1
theorem freeI_le:freeI sl≤sl.length:=List.findIdx_le_length
theorem tk_le:tk sl≤sl.length:=List.length_filter_le _ _
theorem tk_full (h:¬freeI sl < sl.length):tk sl=sl.length:=by
 unfold tk
 rw [List.filter_eq_self.2]
 intro s hs
 have h1:sl.findIdx (fun s=>!s.live && decide (s.gen < 4294967295))=sl.length:=by
  have:=freeI_le (sl:=sl);unfold freeI at this h;omega
 have h2:=List.findIdx_eq_length.1 h1 s hs
 cases hl:s.live
 ·simp [hl] at h2 ⊢;omega
 ·simp
theorem room_get (hw:WfS sl):∃s,(roomF sl)[freeI sl]?=some s∧s=deadS s.gen∧s.gen < 4294967295∧s.live=false:=by
 unfold roomF
 by_cases h:freeI sl < sl.length
 ·rw [if_pos h]
  obtain⟨s,h1,h2,h3⟩:=freeI_lt h
  exact⟨s,h1,hw.dead s (List.mem_of_getElem? h1) h2,h3,h2⟩
 ·rw [if_neg h]
  have h2:freeI sl=sl.length:=by have:=freeI_le (sl:=sl);omega
  exact⟨deadS 0,by rw [h2];simp,rfl,by decide,rfl⟩
theorem genI_eq {s:Sl} (h:(roomF sl)[freeI sl]?=some s):genI sl=s.gen+1:=by unfold genI;rw [h]
theorem room_old {k:Nat}{s:Sl} (h:sl[k]?=some s):(roomF sl)[k]?=some s:=by
 unfold roomF
 split
 ·exact h
 ·rw [List.getElem?_append_left (List.getElem?_eq_some_iff.1 h).1];exact h
theorem room_len:sl.length≤(roomF sl).length∧(roomF sl).length≤tk sl+1∨(roomF sl).length=sl.length:=by
 unfold roomF
 by_cases h:freeI sl < sl.length
 ·rw [if_pos h];exact .inr rfl
 ·rw [if_neg h]
  have:=tk_full h
  exact .inl (by simp;omega)
theorem room_wf (hw:WfS sl) (ht:tk sl < 4096):WfS (roomF sl):=by
 unfold roomF
 by_cases h:freeI sl < sl.length
 ·rw [if_pos h];exact hw
 ·rw [if_neg h]
  have h2:=tk_full h
  refine⟨by simp;omega,fun s hs=>?_,fun s hs hl=>?_,fun s hs hl=>?_⟩ <;> rcases List.mem_append.1 hs with hs | hs
  ·exact hw.gen s hs
  ·rw [List.mem_singleton] at hs;subst hs;decide
  ·exact hw.dead s hs hl
  ·rw [List.mem_singleton] at hs;subst hs;rfl
  ·exact hw.live s hs hl
  ·rw [List.mem_singleton] at hs;subst hs;cases hl
theorem slA_room (hw:WfS sl) (x:Nat):slA (roomF sl) x=slA sl x:=by
 unfold roomF
 by_cases h:freeI sl < sl.length
 ·rw [if_pos h]
 ·rw [if_neg h]
  cases hx:slA sl x with
  | some s =>
   obtain⟨k,h1,h2,h3,h4⟩:=slA_iff.1 hx
   exact slA_iff.2 ⟨k,h1,by rw [List.getElem?_append_left (List.getElem?_eq_some_iff.1 h2).1];exact h2,h3,h4⟩
  | none =>
   cases hy:slA (sl++[deadS 0]) x with
   | none=>rfl
   | some s =>
    obtain⟨k,h1,h2,h3,h4⟩:=slA_iff.1 hy
    rcases Nat.lt_or_ge k sl.length with hk | hk
    ·rw [List.getElem?_append_left hk] at h2
     rw [slA_iff.2 ⟨k,h1,h2,h3,h4⟩] at hx;cases hx
    ·rw [List.getElem?_append_right hk] at h2
     have:s∈[deadS 0]:=List.mem_of_getElem? h2
     rw [List.mem_singleton] at this;subst this;cases h3
theorem slA_born {k:Nat}{s s':Sl} (hk:k+1 < 4294967296) (hs:sl[k]?=some s) (hd:s.live=false) (hl:s'.live=true) (x:Nat) :
  slA (sl.set k s') x=updA (slA sl) (hnd s'.gen k) (some s') x:=by
 have hlt:k < sl.length:=(List.getElem?_eq_some_iff.1 hs).1
 by_cases e:x=hnd s'.gen k
 ·subst e
  rw [updA_self]
  exact slA_hnd hk (by simp [hlt]) hl
 ·rw [updA_ne e]
  cases hx:slA sl x with
  | some t =>
   obtain⟨j,j1,j2,j3,j4⟩:=slA_iff.1 hx
   refine slA_iff.2 ⟨j,j1,?_,j3,j4⟩
   rw [List.getElem?_set_ne,j2]
   rintro rfl
   rw [hs] at j2;cases j2;rw [hd] at j3;cases j3
  | none =>
   cases hy:slA (sl.set k s') x with
   | none=>rfl
   | some t =>
    obtain⟨j,j1,j2,j3,j4⟩:=slA_iff.1 hy
    by_cases ej:k=j
    ·subst ej
     rw [List.getElem?_set_self hlt] at j2
     cases j2
     exact absurd j4.symm e
    ·rw [List.getElem?_set_ne ej] at j2
     rw [slA_iff.2 ⟨j,j1,j2,j3,j4⟩] at hx;cases hx
theorem slA_dead {k h:Nat}{s:Sl} (hk:k+1 < 4294967296) (hs:sl[k]?=some s) (hd:s.live=false) (hm:h % 4294967296=k+1):slA sl h=none:=by
 cases hx:slA sl h with
 | none=>rfl
 | some t =>
  obtain⟨j,j1,j2,j3,j4⟩:=slA_iff.1 hx
  obtain rfl:j=k:=by omega
  rw [hs] at j2;cases j2;rw [hd] at j3;cases j3
theorem WfS.set (hw:WfS sl) {k:Nat}{s':Sl} (h1:s'.gen < 4294967296) (h2:s'.live=false→s'=deadS s'.gen) (h3:s'.live=true→1≤s'.gen):WfS (sl.set k s'):=by
 refine⟨by simpa using hw.few,fun s hs=>?_,fun s hs hl=>?_,fun s hs hl=>?_⟩ <;> rcases List.mem_or_eq_of_mem_set hs with hs | hs
 ·exact hw.gen s hs
 ·subst hs;exact h1
 ·exact hw.dead s hs hl
 ·subst hs;exact h2 hl
 ·exact hw.live s hs hl
 ·subst hs;exact h3 hl
theorem filter_set_len {α:Type} (q:α→Bool):∀(l:List α) (k:Nat) (a b:α),l[k]?=some a→((l.set k b).filter q).length+(if q a then 1 else 0)=(l.filter q).length+(if q b then 1 else 0)
 | [],k,a,b,h=>by simp at h
 | x :: l,0,a,b,h=>by
  simp at h;subst h
  simp only [List.set_cons_zero,List.filter_cons]
  cases q x <;> cases q b <;> simp
 | x :: l,k+1,a,b,h=>by
  have ih:=filter_set_len q l k a b (by simpa using h)
  simp only [List.set_cons_succ,List.filter_cons]
  cases q x
  ·simpa using ih
  ·simp only [if_true,List.length_cons];omega
theorem tk_set {k:Nat}{a b:Sl} (h:sl[k]?=some a):tk (sl.set k b)+(if a.live || decide (4294967295≤a.gen) then 1 else 0)=tk sl+(if b.live || decide (4294967295≤b.gen) then 1 else 0) :=
 filter_set_len (fun s:Sl=>s.live || decide (4294967295≤s.gen)) sl k a b h
theorem tk_room:tk (roomF sl)=tk sl:=by
 unfold roomF tk
 split
 ·rfl
 ·rw [List.filter_append];simp [deadS]
theorem modify_set {α:Type} (f:α→α):∀(l:List α) (k:Nat) (a:α),l[k]?=some a→l.modify k f=l.set k (f a)
 | [],k,a,h=>by simp at h
 | x :: l,0,a,h=>by simp at h;subst h;rfl
 | x :: l,k+1,a,h=>by
  have ih:=modify_set f l k a (by simpa using h)
  simp [ih]
end
structure Made (roots loose:List Nat) (sl sl':List Sl) (p h n:Nat):Prop where
 wfs:WfS sl'
 wf:WfA (slA sl') roots (h :: loose)
 new:slA sl h=none
 ext:∀y s,slA sl y=some s→slA sl' y=some s
 top:∃s,slA sl' h=some s∧s.parent=p
 tk:tk sl'=tk sl+n
 len:sl.length≤sl'.length
section
variable {sl:List Sl}{roots loose:List Nat}{p c:Nat}
theorem one_wf {s:Sl} (hs:okSl s) (hk:s.kids=[]) (hsp:s.parent=p) (hsl:s.live=true) (hsg:s.gen=genI sl) (hw:WfS sl) (hA:WfA (slA sl) roots loose) (hp:p=0∨∃t,slA sl p=some t∧t.kind=1) (hc:Ch (slA sl) p c) (hc2:c+1≤64) (ht:tk sl+1≤4096) :
  Made roots loose sl ((roomF sl).set (freeI sl) s) p (freshH sl) 1∧slA ((roomF sl).set (freeI sl) s) (freshH sl)=some s:=by
 obtain⟨d,h1,h2,h3,h4⟩:=room_get hw
 have hg:=genI_eq h1
 have hR:=room_wf hw (by omega)
 have hi:freeI sl < (roomF sl).length:=(List.getElem?_eq_some_iff.1 h1).1
 have hfew:=hR.few
 have e:∀x,slA ((roomF sl).set (freeI sl) s) x=updA (slA sl) (freshH sl) (some s) x:=fun x=>by
  have e1:=slA_born (sl:=roomF sl) (k:=freeI sl) (s:=d) (s':=s) (by omega) h1 h4 hsl x
  rw [e1]
  have e2:(slA (roomF sl))=slA sl:=funext (slA_room hw)
  rw [e2,hsg];rfl
 have e':=funext e
 have hnew:slA sl (freshH sl)=none:=by
  rw [←slA_room hw]
  exact slA_dead (k:=freeI sl) (s:=d) (by omega) h1 h4 (by unfold freshH;exact hnd_mod (by omega))
 have h0:freshH sl≠0:=by unfold freshH hnd;omega
 refine⟨⟨hR.set (by rw [hsg];omega) (by rw [hsl];simp) (fun _=>by rw [hsg];omega),?_,hnew,fun y t hy=>?_,⟨s,by rw [e,updA_self],hsp⟩,?_,?_⟩,by rw [e,updA_self]⟩
 ·rw [e'];exact hA.fresh h0 hnew hs hk hsp hp hc hc2
 ·rw [e,updA_ne];exact hy
  rintro rfl;rw [hnew] at hy;cases hy
 ·have:=tk_set (b:=s) h1
  rw [tk_room] at this
  rw [h4,hsl] at this
  simp only [Bool.true_or,if_true,Bool.false_or] at this
  rw [if_neg (by simp;omega)] at this
  omega
 ·rw [List.length_set]
  rcases room_len (sl:=sl) with h | h <;> omega
theorem WfA.hang1 {A:Nat→Option Sl}{h hk:Nat}{s:Sl} (hA:WfA A roots (hk :: loose)) (hh:A h=some s) (hs1:s.kind=1) (hkp:∃t,A hk=some t∧t.parent=h) (hnl:hk∉loose) :
  WfA (setA A h (s.kids++[hk])) roots loose:=by
 have h0:=hA.ne0 hh
 have hr:setR roots h (s.kids++[hk])=roots:=by unfold setR;rw [if_neg h0]
 have:=hA.setL (p:=h) (l:=s.kids++[hk]) (loose':=loose) (.inr ⟨s,hh,hs1⟩) ?_ (fun x hx=>?_) (fun x t hx hp hl=>?_) (fun x t hx hp=>?_) (fun x hx=>hA.lo x (List.mem_cons_of_mem _ hx))
 ·rw [hr] at this;exact this
 ·obtain⟨k1,k2⟩:=hA.kid h s hh
  rw [List.nodup_append]
  refine⟨k1,by simp,fun a ha b hb e=>?_⟩
  rw [List.mem_singleton] at hb;subst hb;subst e
  exact (k2 a ha).1 (by simp)
 ·rcases List.mem_append.1 hx with hx | hx
  ·obtain⟨k1,k2⟩:=(hA.kid h s hh).2 x hx
   exact⟨fun e=>k1 (List.mem_cons_of_mem _ e),k2⟩
  ·rw [List.mem_singleton] at hx;subst hx
   exact⟨hnl,hkp⟩
 ·by_cases e:x=hk
  ·subst e;simp
  ·have:=hA.mem x t hx (by simp [e,hl])
   rw [hp,lstA_some h0 hh] at this
   exact List.mem_append_left _ this
 ·constructor
  ·intro k;exact List.mem_cons_of_mem _ k
  ·intro k
   rcases List.mem_cons.1 k with rfl | k
   ·obtain⟨u,u1,u2⟩:=hkp
    rw [hx] at u1;cases u1;exact absurd u2 hp
   ·exact k
theorem makes_wf:∀(l:List Tr),(∀x∈l,∀{sl:List Sl}{loose:List Nat}{p c:Nat},okT x→WfS sl→WfA (slA sl) roots loose→(p=0∨∃t,slA sl p=some t∧t.kind=1)→Ch (slA sl) p c→c+dpT x≤64→tk sl+szT x≤4096→Made roots loose sl (makeF x p sl) p (freshH sl) (szT x)) →
  ∀{sl:List Sl}{loose:List Nat}{h c i:Nat}{s:Sl},okL l→WfS sl→WfA (slA sl) roots loose→h % 4294967296=i+1→slA sl h=some s→s.kind=1→Ch (slA sl) h c→c+dpL l≤64→tk sl+szL l≤4096 →
  WfS (makesF l h i sl)∧WfA (slA (makesF l h i sl)) roots loose∧(∀y t,y≠h→slA sl y=some t→slA (makesF l h i sl) y=some t)∧(∃ks,slA (makesF l h i sl) h=some { s with kids:=s.kids++ks })∧tk (makesF l h i sl)=tk sl+szL l∧sl.length≤(makesF l h i sl).length
 | [],_,sl,loose,h,c,i,s,ho,hw,hA,hi,hs,hs1,hc,hd,ht=>by
  unfold makesF
  exact⟨hw,hA,fun _ _ _ h=>h,⟨[],by simpa using hs⟩,by simp [szL],Nat.le_refl _⟩
 | x :: l,ih,sl,loose,h,c,i,s,ho,hw,hA,hi,hs,hs1,hc,hd,ht=>by
  simp only [okL,dpL,szL] at ho hd ht
  have M:=ih x (by simp) ho.1 hw hA (.inr ⟨s,hs,hs1⟩) hc (by omega) (by omega)
  unfold makesF
  generalize hsl1:makeF x h sl=sl1 at M ⊢
  generalize hhk:freshH sl=hk at M ⊢
  have hs':=M.ext h s hs
  obtain⟨k,k1,k2,k3,k4⟩:=slA_iff.1 hs'
  obtain rfl:k=i:=by omega
  have hfew:=M.wfs.few
  have hlt:k < sl1.length:=(List.getElem?_eq_some_iff.1 k2).1
  rw [modify_set _ _ _ _ k2]
  have e:∀y,slA (sl1.set k { s with kids:=s.kids++[hk] }) y=setA (slA sl1) h (s.kids++[hk]) y:=fun y=>by
   rw [slA_set (s':={ s with kids:=s.kids++[hk] }) k1 hs' rfl k3]
   unfold setA
   have h0:=hA.ne0 hs
   by_cases ey:y=h
   ·subst ey;rw [if_pos rfl,if_pos ⟨rfl,h0⟩,hs'];rfl
   ·rw [if_neg ey,if_neg (fun e=>ey e.1)]
  have e':=funext e
  have hnl:hk∉loose:=fun hm=>by
   obtain⟨t,ht⟩:=hA.lo hk hm
   rw [M.new] at ht;cases ht
  have A2:WfA (slA (sl1.set k { s with kids:=s.kids++[hk] })) roots loose:=by rw [e'];exact M.wf.hang1 hs' hs1 M.top hnl
  have w2:WfS (sl1.set k { s with kids:=s.kids++[hk] }):=M.wfs.set (M.wfs.gen s (List.mem_of_getElem? k2)) (by rw [k3];simp) (fun _=>M.wfs.live s (List.mem_of_getElem? k2) k3)
  have s2:slA (sl1.set k { s with kids:=s.kids++[hk] }) h=some { s with kids:=s.kids++[hk] }:=by rw [slA_set (s':={ s with kids:=s.kids++[hk] }) k1 hs' rfl k3,if_pos rfl]
  have c2:Ch (slA (sl1.set k { s with kids:=s.kids++[hk] })) h c:=(hc.mono fun y t hy=>⟨t,M.ext y t hy,rfl⟩).mono fun y t hy=>by
   rw [e]
   obtain⟨u,u1,u2,_⟩:=setA_of' (p:=h) (l:=s.kids++[hk]) hy
   exact⟨u,u1,u2⟩
  have t2:tk (sl1.set k { s with kids:=s.kids++[hk] })=tk sl+szT x:=by
   have:=tk_set (b:={ s with kids:=s.kids++[hk] }) k2
   have mt:=M.tk
   simp only at this
   omega
  obtain⟨r1,r2,r3,⟨ks,r4⟩,r5,r6⟩:=makes_wf l (fun y hy=>ih y (by simp [hy])) (i:=k) ho.2 w2 A2 k1 s2 hs1 c2 (by omega) (by omega)
  refine⟨r1,r2,fun y t hy ht=>r3 y t hy ?_,⟨hk :: ks,by rw [r4];simp⟩,by simp only [szL];omega,?_⟩
  ·rw [e]
   unfold setA
   rw [if_neg (fun e=>hy e.1)]
   exact M.ext y t ht
  ·have ml:=M.len
   rw [List.length_set] at r6
   omega
theorem make_wf:∀(x:Tr) {sl:List Sl}{loose:List Nat}{p c:Nat},okT x→WfS sl→WfA (slA sl) roots loose→(p=0∨∃t,slA sl p=some t∧t.kind=1)→Ch (slA sl) p c→c+dpT x≤64→tk sl+szT x≤4096→Made roots loose sl (makeF x p sl) p (freshH sl) (szT x):=by
 refine Tr.ind fun kind nm attrs text kids ih sl loose p c ho hw hA hp hc hd ht=>?_
 unfold okT at ho
 obtain⟨o1,o2,o3⟩:=ho
 unfold makeF
 unfold dpT at hd
 unfold szT at ht ⊢
 by_cases hk:kind=2
 ·subst hk
  rw [if_pos rfl] at hd ht ⊢
  rw [if_pos rfl]
  refine (one_wf (s:=⟨genI sl,true,2,noB,[],text,p,[]⟩) ⟨?_,.inr ⟨rfl,rfl,rfl,rfl⟩⟩ rfl rfl rfl rfl hw hA hp hc (by omega) (by omega)).1
  unfold ownF at o1 ⊢
  rw [if_neg (by decide),if_pos rfl] at o1
  rw [if_neg (show ¬(2:Int)=1 by decide),if_pos rfl]
  exact o1
 ·have hk1:kind=1:=o2.resolve_right hk
  subst hk1
  rw [if_neg hk] at hd ht ⊢
  rw [if_neg hk]
  have hok:okSl ⟨genI sl,true,1,nm,attrs,noB,p,[]⟩:=⟨by unfold ownF at o1 ⊢;exact o1,.inl ⟨rfl,rfl⟩⟩
  obtain⟨M,hs⟩:=one_wf (s:=⟨genI sl,true,1,nm,attrs,noB,p,[]⟩) hok rfl rfl rfl rfl hw hA hp hc (by omega) (by omega)
  generalize hsl1:(roomF sl).set (freeI sl) ⟨genI sl,true,1,nm,attrs,noB,p,[]⟩=sl1 at M hs ⊢
  have h0:freshH sl≠0:=by unfold freshH hnd;omega
  have hi:freshH sl % 4294967296=freeI sl+1:=by
   obtain⟨d,d1,_⟩:=room_get hw
   have:=(room_wf hw (by omega)).few
   have:=(List.getElem?_eq_some_iff.1 d1).1
   unfold freshH;exact hnd_mod (by omega)
  have hc1:Ch (slA sl1) (freshH sl) (c+1):=.succ h0 hs (hc.mono fun y t hy=>⟨t,M.ext y t hy,rfl⟩)
  have mt:=M.tk
  obtain⟨r1,r2,r3,⟨ks,r4⟩,r5,r6⟩:=makes_wf kids ih (o3 rfl) M.wfs M.wf hi hs rfl hc1 (by omega) (by omega)
  refine⟨r1,r2,M.new,fun y t hy=>r3 y t ?_ (M.ext y t hy),⟨_,r4,rfl⟩,by omega,Nat.le_trans M.len r6⟩
  rintro rfl
  rw [M.new] at hy;cases hy
end
end Go.Proofs.YtccplipiahdhiaaGreatDoor
