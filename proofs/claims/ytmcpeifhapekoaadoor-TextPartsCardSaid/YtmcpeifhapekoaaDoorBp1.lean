/- Texts of this seat, joined in the order in which they build. -/
import Derived.Shelf.Strings.SlTrimAscii
import Derived.Shelf.Bytes.SlIndexAt
import Derived.Test.YtmcpeifhapekoaaDoorProg
import Derived.Below
import Derived.Deep.Draws
import Derived.Deep.AppendLies
import Derived.Maps.AppendAt
import Derived.OwnWalk
import Derived.Laws.BytesArg
import Derived.Laws.MakeOwn
import Derived.Laws.OwnMore
import Derived.Deep.OwnRows
import Derived.Tactics
import Derived.Lib.ConvBytes
import Derived.Laws.Slices
import Derived.WalkKit
import Derived.KernelRfl
import Derived.RowKit3
import Derived.Deep.LoopGhost
import Derived.Deep.QuietTactic
import Derived.BigQuiet
import Derived.WideLaws
import Derived.Deep.DeepCutAuto
import Derived.Deep.CutBlock
import Derived.Deep.RegionHeld3
import Derived.Laws.Rows
import Derived.Lib.AppendStr
import Derived.ArgAppend
import Derived.Laws.IdiomCopy
import Derived.RowKit
import Derived.Laws.RangeAny
import Derived.Lib.Join
import Derived.Lib.OthersKept
import Derived.OrdersHeld
import Derived.Laws.BitsLemmas
import Derived.Laws.StructEq
import Derived.Lib.SliceRun
import Derived.Lib.Bytealg
import Derived.StillTailTactics
import Derived.BigRegion
import Derived.WalkSmall
import Derived.Defers
import Derived.Recover
import Derived.Shelf.SlSortCmp.QuietGrown
import Derived.Shelf.SlicesQ.Reverse
import Derived.Maps.OwnSet
import Derived.Deep.RegionLaw
import Derived.Deep.Slices
import Derived.ChangeSame
import Derived.WideShapes
import Derived.OpenShut
import Derived.SizedLaws
namespace Go.Proofs
open Go.Shelf
def Tryd.lays160_ren:Go.Shelf.Ren:=⟨fun | 0 => 0 | 1 => 1 | 2 => 2 | 99 => 24 | 103 => 78 | 115 => 72 | 119 => 111 | 120 => 104 | 137 => 30 | 151 => 83 | 152 => 103 | 160 => 33 | 185 => 40 | 187 => 71 | 197 => 82 | 206 => 41 | 210 => 100 | 217 => 42 | 224 => 74 | 225 => 112 | 227 => 50 | 228 => 81 | 231 => 48 | 232 => 49 | 233 => 51 | 234 => 52 | 235 => 53 | 236 => 54 | 253 => 73 | 254 => 75 | 255 => 95 | 260 => 102 | 266 => 76 | 271 => 84 | 291 => 96 | 336 => 87 | 347 => 115 | 348 => 116 | 349 => 117 | 350 => 118 | 351 => 119 | 352 => 120 | 353 => 121 | 354 => 122 | 355 => 123 | 356 => 124 | 357 => 125 | 358 => 126 | 359 => 127 | 360 => 128 | 361 => 129 | 366 => 131 | 367 => 136 | n => n,fun | 0 => 0 | 1 => 1 | 2 => 2 | 3 => 3 | 4 => 4 | 5 => 5 | 6 => 6 | 7 => 7 | 8 => 8 | 9 => 9 | 10 => 10 | 11 => 11 | 12 => 12 | 13 => 13 | 14 => 14 | 15 => 15 | 16 => 16 | 17 => 17 | 18 => 18 | 19 => 19 | 20 => 20 | 21 => 21 | 22 => 67 | 23 => 80 | 24 => 84 | 25 => 118 | 27 => 103 | 31 => 41 | 37 => 42 | 38 => 116 | 40 => 141 | 41 => 100 | 46 => 35 | 48 => 142 | 51 => 134 | 53 => 23 | 55 => 77 | 63 => 122 | 64 => 138 | 69 => 38 | 80 => 90 | 81 => 107 | 97 => 88 | 98 => 59 | 104 => 58 | 105 => 120 | 106 => 121 | 114 => 117 | 115 => 94 | 116 => 95 | 117 => 96 | 118 => 97 | 119 => 143 | 122 => 93 | 123 => 98 | 124 => 99 | 127 => 155 | 131 => 89 | 137 => 144 | 138 => 145 | 139 => 146 | 144 => 74 | 146 => 135 | 164 => 160 | 180 => 136 | 220 => 106 | 238 => 147 | 239 => 148 | 240 => 149 | 241 => 150 | 242 => 151 | 243 => 152 | 244 => 153 | 245 => 154 | 246 => 156 | 247 => 157 | 248 => 158 | 249 => 159 | n => n,fun | 1 => 0 | 3 => 1 | 4 => 2 | n => n⟩
theorem Tryd.lays160:Go.Proofs.Lays.n160 Tryd.prog Tryd.lays160_ren:={
 mixed:=by kernel_rfl
 f119:=Tryd.func111.trans (congrArg some (by kernel_rfl))
 f120:=Tryd.func104.trans (congrArg some (by kernel_rfl))
 f137:=Tryd.func30.trans (congrArg some (by kernel_rfl))
 f151:=Tryd.func83.trans (congrArg some (by kernel_rfl))
 f152:=Tryd.func103.trans (congrArg some (by kernel_rfl))
 f160:=Tryd.func33.trans (congrArg some (by kernel_rfl))
 f197:=Tryd.func82.trans (congrArg some (by kernel_rfl))
 f217:=Tryd.func42.trans (congrArg some (by kernel_rfl))
 f224:=Tryd.func74.trans (congrArg some (by kernel_rfl))
 f225:=Tryd.func112.trans (congrArg some (by kernel_rfl))
 f227:=Tryd.func50.trans (congrArg some (by kernel_rfl))
 f228:=Tryd.func81.trans (congrArg some (by kernel_rfl))
 f231:=Tryd.func48.trans (congrArg some (by kernel_rfl))
 f232:=Tryd.func49.trans (congrArg some (by kernel_rfl))
 f233:=Tryd.func51.trans (congrArg some (by kernel_rfl))
 f234:=Tryd.func52.trans (congrArg some (by kernel_rfl))
 f235:=Tryd.func53.trans (congrArg some (by kernel_rfl))
 f236:=Tryd.func54.trans (congrArg some (by kernel_rfl))
 f260:=Tryd.func102.trans (congrArg some (by kernel_rfl))
 f266:=Tryd.func76.trans (congrArg some (by kernel_rfl))
 f271:=Tryd.func84.trans (congrArg some (by kernel_rfl))
 t0:=Tryd.underlying0
 a0:=Tryd.isAgg0
 z0:=Tryd.sizeOf0
 v0:=Tryd.zeroValue0
 t3:=Tryd.underlying3
 a3:=Tryd.isAgg3
 z3:=Tryd.sizeOf3
 v3:=Tryd.zeroValue3
 t4:=Tryd.underlying4
 a4:=Tryd.isAgg4
 z4:=Tryd.sizeOf4
 v4:=Tryd.zeroValue4
 t5:=Tryd.underlying5
 a5:=Tryd.isAgg5
 z5:=Tryd.sizeOf5
 v5:=Tryd.zeroValue5
 t9:=Tryd.underlying9
 a9:=Tryd.isAgg9
 z9:=Tryd.sizeOf9
 v9:=Tryd.zeroValue9
 t21:=Tryd.underlying21
 a21:=Tryd.isAgg21
 z21:=Tryd.sizeOf21
 v21:=Tryd.zeroValue21
 t46:=Tryd.underlying35
 a46:=Tryd.isAgg35
 z46:=Tryd.sizeOf35
 v46:=Tryd.zeroValue35
 t105:=Tryd.underlying120
 a105:=Tryd.isAgg120
 z105:=Tryd.sizeOf120
 v105:=Tryd.zeroValue120
 t116:=Tryd.underlying95
 a116:=Tryd.isAgg95
 z116:=Tryd.sizeOf95
 t117:=Tryd.underlying96
 a117:=Tryd.isAgg96
 z117:=Tryd.sizeOf96
 v117:=Tryd.zeroValue96
 t119:=Tryd.underlying143
 a119:=Tryd.isAgg143
 z119:=Tryd.sizeOf143
 t124:=Tryd.underlying99
 a124:=Tryd.isAgg99
 z124:=Tryd.sizeOf99
 v124:=Tryd.zeroValue99
 t138:=Tryd.underlying145
 a138:=Tryd.isAgg145
 z138:=Tryd.sizeOf145
 v138:=Tryd.zeroValue145
 t139:=Tryd.underlying146
 a139:=Tryd.isAgg146
 z139:=Tryd.sizeOf146
 v139:=Tryd.zeroValue146
 g3:=by kernel_rfl
 g4:=by kernel_rfl }
def Tryd.lays185_ren:Go.Shelf.Ren:=⟨fun | 0 => 0 | 1 => 1 | 2 => 2 | 99 => 24 | 103 => 78 | 115 => 72 | 119 => 111 | 120 => 104 | 137 => 30 | 151 => 83 | 152 => 103 | 160 => 33 | 185 => 40 | 187 => 71 | 197 => 82 | 206 => 41 | 210 => 100 | 217 => 42 | 224 => 74 | 225 => 112 | 227 => 50 | 228 => 81 | 231 => 48 | 232 => 49 | 233 => 51 | 234 => 52 | 235 => 53 | 236 => 54 | 253 => 73 | 254 => 75 | 255 => 95 | 260 => 102 | 266 => 76 | 271 => 84 | 291 => 96 | 336 => 87 | 347 => 115 | 348 => 116 | 349 => 117 | 350 => 118 | 351 => 119 | 352 => 120 | 353 => 121 | 354 => 122 | 355 => 123 | 356 => 124 | 357 => 125 | 358 => 126 | 359 => 127 | 360 => 128 | 361 => 129 | 366 => 131 | 367 => 136 | n => n,fun | 0 => 0 | 1 => 1 | 2 => 2 | 3 => 3 | 4 => 4 | 5 => 5 | 6 => 6 | 7 => 7 | 8 => 8 | 9 => 9 | 10 => 10 | 11 => 11 | 12 => 12 | 13 => 13 | 14 => 14 | 15 => 15 | 16 => 16 | 17 => 17 | 18 => 18 | 19 => 19 | 20 => 20 | 21 => 21 | 22 => 67 | 23 => 80 | 24 => 84 | 25 => 118 | 27 => 103 | 31 => 41 | 37 => 42 | 38 => 116 | 40 => 141 | 41 => 100 | 46 => 35 | 48 => 142 | 51 => 134 | 53 => 23 | 55 => 77 | 63 => 122 | 64 => 138 | 69 => 38 | 80 => 90 | 81 => 107 | 97 => 88 | 98 => 59 | 104 => 58 | 105 => 120 | 106 => 121 | 114 => 117 | 115 => 94 | 116 => 95 | 117 => 96 | 118 => 97 | 119 => 143 | 122 => 93 | 123 => 98 | 124 => 99 | 127 => 155 | 131 => 89 | 137 => 144 | 138 => 145 | 139 => 146 | 144 => 74 | 146 => 135 | 164 => 160 | 180 => 136 | 220 => 106 | 238 => 147 | 239 => 148 | 240 => 149 | 241 => 150 | 242 => 151 | 243 => 152 | 244 => 153 | 245 => 154 | 246 => 156 | 247 => 157 | 248 => 158 | 249 => 159 | n => n,fun | 1 => 0 | 3 => 1 | 4 => 2 | n => n⟩
theorem Tryd.lays185:Go.Proofs.Lays.n185 Tryd.prog Tryd.lays185_ren:={
 mixed:=by kernel_rfl
 f115:=Tryd.func72.trans (congrArg some (by kernel_rfl))
 f185:=Tryd.func40.trans (congrArg some (by kernel_rfl))
 f187:=Tryd.func71.trans (congrArg some (by kernel_rfl))
 f224:=Tryd.func74.trans (congrArg some (by kernel_rfl))
 f253:=Tryd.func73.trans (congrArg some (by kernel_rfl))
 f254:=Tryd.func75.trans (congrArg some (by kernel_rfl))
 f255:=Tryd.func95.trans (congrArg some (by kernel_rfl))
 f291:=Tryd.func96.trans (congrArg some (by kernel_rfl))
 t0:=Tryd.underlying0
 a0:=Tryd.isAgg0
 z0:=Tryd.sizeOf0
 v0:=Tryd.zeroValue0
 t3:=Tryd.underlying3
 a3:=Tryd.isAgg3
 z3:=Tryd.sizeOf3
 v3:=Tryd.zeroValue3
 t4:=Tryd.underlying4
 a4:=Tryd.isAgg4
 z4:=Tryd.sizeOf4
 v4:=Tryd.zeroValue4
 t5:=Tryd.underlying5
 a5:=Tryd.isAgg5
 z5:=Tryd.sizeOf5
 v5:=Tryd.zeroValue5
 t9:=Tryd.underlying9
 a9:=Tryd.isAgg9
 z9:=Tryd.sizeOf9
 v9:=Tryd.zeroValue9
 t37:=Tryd.underlying42
 a37:=Tryd.isAgg42
 z37:=Tryd.sizeOf42
 v37:=Tryd.zeroValue42
 t46:=Tryd.underlying35
 a46:=Tryd.isAgg35
 z46:=Tryd.sizeOf35
 v46:=Tryd.zeroValue35
 t51:=Tryd.underlying134
 a51:=Tryd.isAgg134
 z51:=Tryd.sizeOf134
 v51:=Tryd.zeroValue134
 t146:=Tryd.underlying135
 a146:=Tryd.isAgg135
 z146:=Tryd.sizeOf135
 v146:=Tryd.zeroValue135
 g1:=by kernel_rfl }
open Go.RowKit in
theorem Tryd.strings_Trim (s cutset:ByteArray) (w:World) (hs:s.size ≤ 9223372036854775807) (hcs:cutset.size < 4294967281) (hascii:∀ (j:Nat) b,cutset.data.toList[j]? = some b → b.toNat < 128) :
 Calls Tryd.prog 33 #[.string s,.string cutset] w fun e w' => e = .returned (.string ⟨(Lib.trimS s.data.toList cutset.data.toList).toArray⟩) ∧ Below w.heap.size w w':=Any.strings_Trim_laid Tryd.lays160 (by kernel_rfl) s cutset w hs hcs hascii
theorem Tryd.bytes_Index_one (a:Addr) (n c b2 o2 d:Nat) (xs:List Int) (cv:Int) (w:World) (hx:xs.length = n) (hc:∀ i,i < n → w.cell? (a.add i) = some (.int .u8 (xs.getD i 0))) (hc2:w.cell? ⟨b2,o2,none⟩ = some (.int .u8 cv)) :
 Calls Tryd.prog 40 #[.slice (some a) n c,.slice (some ⟨b2,o2,none⟩) 1 d] w fun e w' => e = .returned (.int .i64 (Lib.indexByte (Lib.bytesOf xs) cv.toNat.toUInt8)) ∧ w' = w:=Any.bytes_Index_one_at Tryd.lays185 a n c b2 o2 d xs cv w hx hc hc2
end Go.Proofs
set_option linter.unusedVariables false
set_option linter.unusedSimpArgs false
namespace Go.Proofs.YtmcpeifhapekoaaDoorW.PrintWords
open Go.RowKit
structure Aside0 (p:Prop):Prop where mk :: (out:p)
structure u1c (w w':World):Prop where mk :: (out:∃ n,w' = w.drewN n)
theorem u1c.refl (w:World):u1c w w:=⟨⟨0,rfl⟩⟩
theorem u1c.step {w w':World} (h:u1c w w') (n:Nat):u1c w (w'.drewN n):=by
 obtain ⟨m,rfl⟩:=h
 exact ⟨⟨m + n,World.drewN_drewN ..⟩⟩
theorem u1c.grown {w w':World} (h:u1c w w'):Grown w w':=by
 obtain ⟨n,rfl⟩:=h
 induction n with
 | zero => exact Grown.refl _
 | succ n ih => rw [← World.drew_drewN];exact Grown.drew ih
theorem u1c.below {w w':World} (h:u1c w w'):Below w.heap.size w w':=by
 obtain ⟨n,rfl⟩:=h
 induction n with
 | zero => exact Below.refl _ _
 | succ n ih => rw [← World.drew_drewN];exact ih.drew
def rd (xs:List Int) (i:Int):Int:=xs.getD i.toNat 0
def bt (s:ByteArray) (i:Int):Int:=if h:i.toNat < s.size then ((s[i.toNat]'h).toNat:Int) else 0
theorem bt_at (s:ByteArray) (i:Int):∀ h:i.toNat < s.size,((s[i.toNat]'h).toNat:Int) = bt s i:=fun h => by simp [bt,h]
def nums (k:IntKind) (xs:List Int):List Value:=xs.map fun x => .int k x
theorem nums_length (k:IntKind) (xs:List Int):(nums k xs).length = xs.length:=by simp [nums]
theorem nums_append (k:IntKind) (xs ys:List Int):nums k (xs ++ ys) = nums k xs ++ nums k ys:=by simp [nums]
theorem uf {w W:World} (h:Below w.heap.size w W) (o:Obj):Below w.heap.size w (W.alloc o):=h.alloc h.size o
theorem below_drew {B:Nat} {w W:World} (h:Below B w W):Below B w W.drew:=⟨h.os,h.tape,h.output,h.size,h.block⟩
theorem ud {B:Nat} {w W:World} (h:Below B w W) (n:Nat):Below B w (W.drewN n):=⟨h.os,h.tape,h.output,h.size,h.block⟩
theorem u1k {B:Nat} {w w1 w2:World} (h:Below B w w1) (hB:B ≤ w1.heap.size) (k:Below w1.heap.size w1 w2):Below B w w2 :=
 h.trans ⟨k.os,k.tape,k.output,k.size,fun i hi => k.block i (Nat.lt_of_lt_of_le hi hB)⟩
theorem grown_of_below {w w1:World} (h:Below w.heap.size w w1) (row:Option Nat):w.grownBy w1 row:=⟨h.os,h.tape,h.output,h.size,fun i hi _ => h.block i hi⟩
theorem pw_cell_below {w w1:World} (h:Below w.heap.size w w1) {a:Addr} {v:Value} (hc:w.cell? a = some v):w1.cell? a = some v:=(h.cell (World.block_lt_of_cell? w a hc)).trans hc
theorem add_plain (g j:Nat):(⟨g,0,none⟩:Addr).add j = ⟨g,j,none⟩:=by unfold Addr.add;split <;> simp_all
def ReadsInt (w:World) (k:IntKind) (A:Option Addr) (n:Nat) (xs:List Int):Prop :=
 xs.length = n ∧ n ≤ 9223372036854775807 ∧ (0 < n → ∃ ad,A = some ad ∧ ∀ j,j < n → w.cell? (ad.add j) = some (.int k (xs.getD j 0)))
theorem ReadsInt.at_ {w:World} {k:IntKind} {A:Option Addr} {n:Nat} {xs:List Int} (h:ReadsInt w k A n xs) (i:Int) (h0:0 ≤ i) (h1:i < n):∃ ad,A = some ad ∧ w.cell? (ad.add i.toNat) = some (.int k (rd xs i)):=by
 obtain ⟨ad,e,hc⟩:=h.2.2 (by omega)
 exact ⟨ad,e,hc _ (by omega)⟩
theorem ReadsInt.below {w w1:World} {k:IntKind} {A:Option Addr} {n:Nat} {xs:List Int} (h:ReadsInt w k A n xs) (hb:Below w.heap.size w w1):ReadsInt w1 k A n xs :=
 ⟨h.1,h.2.1,fun hn => by
   obtain ⟨ad,e,hc⟩:=h.2.2 hn
   exact ⟨ad,e,fun j hj => pw_cell_below hb (hc j hj)⟩⟩
theorem own_nil (W:World) (base:Nat) (e:TypeId) (size:Nat):W.ownsRow base e size (.slice none 0 0) 0 []:=⟨by simp,.inl ⟨rfl,rfl⟩⟩
theorem own_base {w:World} {base:Nat} {e:TypeId} {size n:Nat} {v:Value} {xs:List Value} (h:w.ownsRow base e size v n xs) (k:Nat) (hk:v.ownBlock = some k):base ≤ k:=by
 rcases h.2 with ⟨rfl,_⟩ | ⟨g,cap,cur,rfl,hb,_⟩
 · simp [Value.ownBlock] at hk
 · have:g = k:=by simpa [Value.ownBlock] using hk
   omega
theorem own_lt {w:World} {base:Nat} {e:TypeId} {size n:Nat} {v:Value} {xs:List Value} (h:w.ownsRow base e size v n xs) (k:Nat) (hk:v.ownBlock = some k):k < w.heap.size:=by
 rcases h.2 with ⟨rfl,_⟩ | ⟨g,cap,cur,rfl,hb,hh,_⟩
 · simp [Value.ownBlock] at hk
 · have:g = k:=by simpa [Value.ownBlock] using hk
   subst this
   exact (Array.getElem?_eq_some_iff.1 hh).1
theorem pw_own_below {w w1:World} {base:Nat} {e:TypeId} {size n:Nat} {v:Value} {xs:List Value} (h:w.ownsRow base e size v n xs) (hb:Below w.heap.size w w1):w1.ownsRow base e size v n xs :=
 h.kept (grown_of_below hb none) (by cases v.ownBlock <;> simp)
theorem own_other {w w1:World} {base:Nat} {e:TypeId} {size n:Nat} {v:Value} {xs:List Value} (h:w.ownsRow base e size v n xs) {row:Option Nat} (hg:w.grownBy w1 row) (hne:v.ownBlock = none ∨ v.ownBlock ≠ row):w1.ownsRow base e size v n xs:=h.kept hg hne
theorem own_slice {w:World} {base n:Nat} {e:TypeId} {size:Nat} {v:Value} {xs:List Value} (h:w.ownsRow base e size v n xs):∃ A c,v = .slice A n c:=by
 rcases h.2 with ⟨rfl,rfl⟩ | ⟨g,cap,cur,rfl,_⟩
 · exact ⟨none,0,rfl⟩
 · exact ⟨_,cap,rfl⟩
theorem own_string {P:Program} {w:World} {base n:Nat} {e' src dst e:TypeId} {v:Value} {xs:List Int} (hs:P.underlying src = some (.slice e)) (he:P.underlying e = some (.int .u8)) (hd:P.underlying dst = some .string)
 (h:w.ownsRow base e' 1 v n (nums .u8 xs)):(convert src dst v).run P w = .ok (.string (strOfNums xs)) w:=by
 have hl:xs.length = n:=by have:=h.1;simp [nums] at this;exact this
 rcases h.2 with ⟨rfl,rfl⟩ | ⟨g,cap,cur,rfl,_⟩
 · obtain rfl:xs = []:=List.eq_nil_of_length_eq_zero hl
   exact run_convert_bytes_nil w src e hs he 0 0 dst hd
 · refine run_convert_bytes_arg w src e hs he g 0 n cap xs hl (fun i hi => ?_) dst hd
   have hc:=h.cells (g:=g) rfl i (.int .u8 (xs.getD i 0)) (by simp [nums,List.getElem?_eq_getElem (show i < xs.length by omega),List.getD_eq_getElem?_getD])
   have ha:(⟨g,0,none⟩:Addr).add i = ⟨g,0 + i,none⟩:=by unfold Addr.add;split <;> simp_all
   rwa [ha] at hc
section
variable {P:Program} {ops:Array Oper} {rest:List Oper} {o:Oper} {a:Act} {Q:Exit → Act → World → Prop}
theorem print_append {w0 W:World} (base:Nat) (hgd:o.guard = none) (s x:Operand) (t e:TypeId) (z:Value) (bytes:Nat)
 (ho:o.op = .call { callee:=.builtin .append,args:=#[s,x],argTypes:=#[t,t] })
 (ht:P.underlying t = some (.slice e)) (hinfo:(P.info? e).map (fun i => (i.zero,i.size,i.bytes)) = some (some z,1,bytes)) (hz:z.cells.size = 1) (hb0:0 < bytes)
 (v:Value) (xs:List Value) (y:Value) (hs:a.eval s = v) (hx:a.eval x = .slice (some ⟨W.heap.size,0,none⟩) 1 1) (h1:y.oneCell' = true)
 (HO:W.ownsRow base e 1 v xs.length xs) (HB:Below base w0 W) (hbase:base ≤ W.heap.size) (hl:(xs.length + 1) * bytes ≤ 140737488355328)
 (h:∀ v1 w1,w1.ownsRow base e 1 v1 (xs ++ [y]).length (xs ++ [y]) → Below base w0 w1 → W.grownBy w1 v.ownBlock → (v1.ownBlock = v.ownBlock ∨ ∃ b,v1.ownBlock = some b ∧ W.heap.size ≤ b) → wpList P ops Q rest (a.put o.dst v1) w1) :
 wpList P ops Q (o :: rest) a (W.alloc (.cells #[y] e)):=by
 obtain ⟨i0,hi,hzz⟩:=Option.map_eq_some_iff.1 hinfo
 simp only [Prod.mk.injEq] at hzz
 obtain ⟨hz0,hz1,hz2⟩:=hzz
 have hlen:xs.length + 1 ≤ 140737488355328:=Nat.le_trans (Nat.le_mul_of_pos_right _ hb0) hl
 refine wpList_append_own_at (W.alloc (.cells #[y] e)) hgd s x t ho base e i0 z 1 bytes ht hi hz0 hz1 hz2 hz (by omega) v xs.length xs hs (HO.alloc _) ⟨W.heap.size,0,none⟩ 1 1 [y] hx rfl
  (World.news_of_block (cs:=#[y]) (t:=e) (fr:=(0,0)) (heap_alloc_new W _)) (by simpa using h1) (by simp only [maxLen];omega) hl (by simp;omega) ?_
 intro v1 w1 hown hg _ hat
 refine h v1 w1 (by simpa using hown) ((HB.alloc hbase _).grown hg (by simp;omega) (own_base HO)) (World.grownBy.trans (World.grownBy_alloc W _ _) hg) ?_
 rcases hat with hat | hat
 · exact .inl hat
 · exact .inr ⟨_,hat,by simp⟩
theorem u1y {w0 W:World} (base:Nat) (hgd:o.guard = none) (s x:Operand) (t e:TypeId) (k:IntKind) (bytes:Nat)
 (ho:o.op = .call { callee:=.builtin .append,args:=#[s,x],argTypes:=#[t,t] })
 (ht:P.underlying t = some (.slice e)) (hinfo:(P.info? e).map (fun i => (i.zero,i.size,i.bytes)) = some (some (.int k 0),1,bytes)) (hb0:0 < bytes)
 (v:Value) (xs:List Int) (y:Int) (hs:a.eval s = v) (hx:a.eval x = .slice (some ⟨W.heap.size,0,none⟩) 1 1)
 (HO:W.ownsRow base e 1 v xs.length (nums k xs)) (HB:Below base w0 W) (hbase:base ≤ W.heap.size) (hl:(xs.length + 1) * bytes ≤ 140737488355328)
 (h:∀ v1 w1,w1.ownsRow base e 1 v1 (xs ++ [y]).length (nums k (xs ++ [y])) → Below base w0 w1 → W.grownBy w1 v.ownBlock → (v1.ownBlock = v.ownBlock ∨ ∃ b,v1.ownBlock = some b ∧ W.heap.size ≤ b) → wpList P ops Q rest (a.put o.dst v1) w1) :
 wpList P ops Q (o :: rest) a (W.alloc (.cells #[.int k y] e)) :=
 print_append base hgd s x t e (.int k 0) bytes ho ht hinfo rfl hb0 v (nums k xs) (.int k y) hs hx rfl (by rw [nums_length];exact HO) HB hbase (by rw [nums_length];exact hl)
  fun v1 w1 hown hB hg hat => h v1 w1 (by simpa [nums] using hown) hB hg hat
end
section
variable {P:Program}
end
section
variable {P:Program} {ops:Array Oper} {rest:List Oper} {o:Oper} {a:Act} {Q:Exit → Act → World → Prop}
end
def bytesOf (s:ByteArray):List Int:=s.data.toList.map fun b => (b.toNat:Int)
theorem u1q (s:ByteArray):s.data.toList.length = s.size:=by rw [Array.length_toList];rfl
theorem bytesOf_length (s:ByteArray):(bytesOf s).length = s.size:=by rw [bytesOf,List.length_map,u1q]
theorem rd_bytesOf (s:ByteArray) (i:Int):rd (bytesOf s) i = bt s i:=by
 unfold rd bt bytesOf
 split
 · rename_i h
   have h':i.toNat < s.data.toList.length:=by rw [u1q];exact h
   simp [List.getD_eq_getElem?_getD,List.getElem?_eq_getElem h']
   rfl
 · rename_i h
   have h':s.data.toList.length ≤ i.toNat:=by rw [u1q];omega
   simp [List.getD_eq_getElem?_getD,List.getElem?_eq_none h']
theorem print_bytes {P:Program} (src dst e:TypeId) {u:TypeDesc} (hs:P.underlying src = some u) (hd:P.underlying dst = some (.slice e)) (he:P.underlying e = some (.int .u8)) (s:ByteArray) (W:World) :
 (convert src dst (.string s)).run P W = .ok (.slice (some ⟨W.heap.size,0,none⟩) s.size (grownCap W s.size 0 e)) (Lib.bytesWorld W e s):=Lib.run_convert_string_bytes W src dst e s hs hd he
theorem bytes_reads (W:World) (e:TypeId) (s:ByteArray) (hs:s.size ≤ 9223372036854775807):ReadsInt (Lib.bytesWorld W e s) .u8 (some ⟨W.heap.size,0,none⟩) s.size (bytesOf s):=by
 refine ⟨bytesOf_length s,hs,fun _ => ⟨_,rfl,fun j hj => ?_⟩⟩
 rw [add_plain,Lib.bytesWorld_cell W e s j hj]
 have h':j < s.data.toList.length:=by rw [u1q];exact hj
 simp [bytesOf,List.getD_eq_getElem?_getD,List.getElem?_eq_getElem h']
theorem bytes_below {B:Nat} {w W:World} (h:Below B w W) (hB:B ≤ W.heap.size) (e:TypeId) (s:ByteArray):Below B w (Lib.bytesWorld W e s) :=
 h.trans ⟨rfl,rfl,rfl,by rw [Lib.bytesWorld_size];omega,fun i hi => Lib.bytesWorld_at_old W e s i (by omega)⟩
def LeO {α:Type} (a b:Option α):Prop:=∀ r,a = some r → b = some r
theorem LeO.refl {α:Type} (a:Option α):LeO a a:=fun _ h => h
theorem LeO.none {α:Type} (b:Option α):LeO Option.none b:=fun _ h => by cases h
theorem LeO.trans {α:Type} {a b c:Option α} (h:LeO a b) (k:LeO b c):LeO a c:=fun r hr => k r (h r hr)
theorem LeO.bind {α β:Type} {a a':Option α} {f f':α → Option β} (h:LeO a a') (k:∀ x,LeO (f x) (f' x)):LeO (a.bind f) (a'.bind f'):=by
 intro r hr
 obtain ⟨x,hx,hf⟩:=Option.bind_eq_some_iff.1 hr
 exact Option.bind_eq_some_iff.2 ⟨x,h x hx,k x r hf⟩
theorem LeO.map {α β:Type} {a a':Option α} (f:α → β) (h:LeO a a'):LeO (a.map f) (a'.map f):=by
 intro r hr
 obtain ⟨x,hx,hf⟩:=Option.map_eq_some_iff.1 hr
 exact Option.map_eq_some_iff.2 ⟨x,h x hx,hf⟩
theorem more_rounds {α:Type} {g:Nat → Option α} (h:∀ k,LeO (g k) (g (k + 1))) (k:Nat):∀ j,LeO (g k) (g (k + j))
 | 0 => LeO.refl _
 | j + 1 => (more_rounds h k j).trans (h (k + j))
theorem at_rounds {α:Type} {g:Nat → Option α} (h:∀ k,LeO (g k) (g (k + 1))) {k k':Nat} (hk:k ≤ k') {r:α} (hr:g k = some r):g k' = some r:=by
 have:=more_rounds h k (k' - k) r hr
 rwa [Nat.add_sub_cancel' hk] at this
def Reps {α:Type} (R:α → List Value → Prop) (size:Nat) (ps:List α) (cs:List Value):Prop :=
 cs.length = ps.length * size ∧ ∀ j p,ps[j]? = some p → R p ((cs.drop (j * size)).take size)
theorem Reps.none {α:Type} (R:α → List Value → Prop) (size:Nat):Reps R size [] []:=⟨by simp,fun j p h => by simp at h⟩
theorem Reps.snoc {α:Type} {R:α → List Value → Prop} {size:Nat} {ps:List α} {cs c:List Value} {p:α} (h:Reps R size ps cs) (hp:R p c) (hc:c.length = size):Reps R size (ps ++ [p]) (cs ++ c):=by
 refine ⟨by rw [List.length_append,h.1,hc,List.length_append,List.length_singleton,Nat.add_mul,Nat.one_mul],fun j q hq => ?_⟩
 rcases Nat.lt_or_ge j ps.length with hj | hj
 · rw [List.getElem?_append_left hj] at hq
   have h1:j * size + size ≤ cs.length:=by rw [h.1,← Nat.succ_mul];exact Nat.mul_le_mul_right _ hj
   have h2:=h.2 j q hq
   rw [List.drop_append_of_le_length (by omega),List.take_append_of_le_length (by rw [List.length_drop];omega)]
   exact h2
 · have hj':j = ps.length:=by
    have:=(List.getElem?_eq_some_iff.1 hq).1
    rw [List.length_append,List.length_singleton] at this
    omega
   subst hj'
   have hq':p = q:=by simpa using hq
   subst hq'
   rw [← h.1,List.drop_left,← hc,List.take_length]
   exact hp
theorem Reps.imp_ {α:Type} {R R':α → List Value → Prop} {size:Nat} {ps:List α} {cs:List Value} (h:Reps R size ps cs) (hR:∀ p c,R p c → R' p c):Reps R' size ps cs:=⟨h.1,fun j p hj => hR _ _ (h.2 j p hj)⟩
def ReadsRow {α:Type} (R:α → List Value → Prop) (size:Nat) (w:World) (A:Option Addr) (n:Nat) (ps:List α):Prop :=
 ps.length = n ∧ n ≤ 9223372036854775807 ∧ (0 < n → ∃ ad,A = some ad ∧ ∀ j p,ps[j]? = some p → ∃ c,c.length = size ∧ R p c ∧ ∀ i u,c[i]? = some u → w.cell? (ad.add (j * size + i)) = some u)
theorem ReadsRow.get_ {α:Type} {R:α → List Value → Prop} {size:Nat} {w:World} {A:Option Addr} {n:Nat} {ps:List α} (h:ReadsRow R size w A n ps) (d:α) (i:Int) (h0:0 ≤ i) (h1:i < n) :
 ∃ ad c,A = some ad ∧ c.length = size ∧ R (ps.getD i.toNat d) c ∧ ∀ j u,c[j]? = some u → w.cell? (ad.add (i.toNat * size + j)) = some u:=by
 obtain ⟨ad,e,hc⟩:=h.2.2 (by omega)
 have hl:i.toNat < ps.length:=by have:=h.1;omega
 obtain ⟨c,hs,hr,hcell⟩:=hc i.toNat _ (List.getElem?_eq_getElem hl)
 refine ⟨ad,c,e,hs,?_,hcell⟩
 rw [List.getD_eq_getElem?_getD,List.getElem?_eq_getElem hl]
 exact hr
theorem ReadsRow.imp_ {α:Type} {R R':α → List Value → Prop} {size:Nat} {w w1:World} {A:Option Addr} {n:Nat} {ps:List α} (h:ReadsRow R size w A n ps) (hb:Below w.heap.size w w1) (hR:∀ p c,R p c → R' p c):ReadsRow R' size w1 A n ps :=
 ⟨h.1,h.2.1,fun hn => by
   obtain ⟨ad,e,hc⟩:=h.2.2 hn
   refine ⟨ad,e,fun j p hj => ?_⟩
   obtain ⟨c,hs,hr,hcell⟩:=hc j p hj
   exact ⟨c,hs,hR _ _ hr,fun i u hu => pw_cell_below hb (hcell i u hu)⟩⟩
theorem own_reads_row {α:Type} {R:α → List Value → Prop} {w:World} {base n size:Nat} {e:TypeId} {v:Value} {ps:List α} {cs:List Value} (h:w.ownsRow base e size v n cs) (hR:Reps R size ps cs) (hn:ps.length = n) :
 ∃ A c,v = .slice A n c ∧ ReadsRow R size w A n ps:=by
 rcases Nat.eq_zero_or_pos n with h0 | h0
 · rcases h.2 with ⟨rfl,rfl⟩ | ⟨g,cap,cur,rfl,_⟩
   · exact ⟨none,0,rfl,hn,by omega,fun hp => absurd hp (by omega)⟩
   · exact ⟨_,cap,rfl,hn,by omega,fun hp => absurd hp (by omega)⟩
 · obtain ⟨g,cap,rfl,_,_⟩:=h.form h0
   have hm:n ≤ 9223372036854775807:=by
    rcases h.2 with ⟨_,h1⟩ | ⟨g',cap',cur,he,_,_,h1,h2,_⟩
    · omega
    · simp only [maxLen] at h2
      omega
   refine ⟨_,cap,rfl,hn,hm,fun _ => ⟨_,rfl,fun j p hj => ⟨(cs.drop (j * size)).take size,?_,hR.2 j p hj,fun i u hu => ?_⟩⟩⟩
   · have hjl:=(List.getElem?_eq_some_iff.1 hj).1
     have h1:j * size + size ≤ cs.length:=by rw [hR.1,← Nat.succ_mul];exact Nat.mul_le_mul_right _ hjl
     rw [List.length_take,List.length_drop]
     omega
   · refine h.cells (g:=g) rfl _ u ?_
     rw [List.getElem?_take] at hu
     split at hu
     · rw [List.getElem?_drop] at hu
       exact hu
     · cases hu
theorem add_field (ad:Addr) (m j:Nat) (hj:0 < j):ad.add (m + j) = ⟨(ad.add m).block,(ad.add m).off + j,none⟩:=by
 unfold Addr.add
 by_cases hm:m = 0
 · subst hm
   simp [Nat.ne_of_gt hj]
 · simp [hm,Nat.add_assoc]
section
variable {P:Program} {ops:Array Oper} {rest:List Oper} {o:Oper} {a:Act} {Q:Exit → Act → World → Prop}
theorem print_append_cells {w0 W:World} (base:Nat) (hgd:o.guard = none) (s x:Operand) (t e:TypeId) (z:Value) (size bytes:Nat)
 (ho:o.op = .call { callee:=.builtin .append,args:=#[s,x],argTypes:=#[t,t] })
 (ht:P.underlying t = some (.slice e)) (hinfo:(P.info? e).map (fun i => (i.zero,i.size,i.bytes)) = some (some z,size,bytes)) (hz:z.cells.size = size) (hs0:0 < size) (hb0:0 < bytes)
 (v:Value) (n:Nat) (xs ys:List Value) (hs:a.eval s = v) (hx:a.eval x = .slice (some ⟨W.heap.size,0,none⟩) 1 1) (hys:ys.length = size) (h1:∀ u ∈ ys,u.oneCell' = true)
 (HO:W.ownsRow base e size v n xs) (HB:Below base w0 W) (hbase:base ≤ W.heap.size) (hl:(n + 1) * bytes ≤ 140737488355328)
 (h:∀ v1 w1,w1.ownsRow base e size v1 (n + 1) (xs ++ ys) → Below base w0 w1 → W.grownBy w1 v.ownBlock → (v1.ownBlock = v.ownBlock ∨ ∃ b,v1.ownBlock = some b ∧ W.heap.size ≤ b) → wpList P ops Q rest (a.put o.dst v1) w1) :
 wpList P ops Q (o :: rest) a (W.alloc (.cells ys.toArray e)):=by
 obtain ⟨i0,hi,hzz⟩:=Option.map_eq_some_iff.1 hinfo
 simp only [Prod.mk.injEq] at hzz
 obtain ⟨hz0,hz1,hz2⟩:=hzz
 have hlen:n + 1 ≤ 140737488355328:=Nat.le_trans (Nat.le_mul_of_pos_right _ hb0) hl
 refine wpList_append_own_at (W.alloc (.cells ys.toArray e)) hgd s x t ho base e i0 z size bytes ht hi hz0 hz1 hz2 hz hs0 v n xs hs (HO.alloc _) ⟨W.heap.size,0,none⟩ 1 1 ys hx (by rw [hys];simp)
  (by simpa using World.news_of_block (cs:=ys.toArray) (t:=e) (fr:=(0,0)) (heap_alloc_new W (.cells ys.toArray e))) h1 (by simp only [maxLen];omega) hl (by simp;omega) ?_
 intro v1 w1 hown hg _ hat
 refine h v1 w1 hown ((HB.alloc hbase _).grown hg (by simp;omega) (own_base HO)) (World.grownBy.trans (World.grownBy_alloc W _ _) hg) ?_
 rcases hat with hat | hat
 · exact .inl hat
 · exact .inr ⟨_,hat,by simp⟩
end
theorem own_ne {w:World} {base:Nat} {e t:TypeId} {size n g:Nat} {v:Value} {xs:List Value} {cs:Array Value} (h:w.ownsRow base e size v n xs) (hg:w.heap[g]? = some (.cells cs t (0,0))) (hne:e ≠ t):some g ≠ v.ownBlock:=by
 rcases h.2 with ⟨rfl,_⟩ | ⟨g',cap,cur,rfl,_,hh,_⟩
 · simp [Value.ownBlock]
 · intro he
   have:g = g':=by simpa [Value.ownBlock] using he
   subst this
   rw [hg] at hh
   injection hh with hh
   injection hh with _ ht
   exact hne ht.symm
theorem own_setCell {w:World} {base:Nat} {e:TypeId} {size n:Nat} {v:Value} {xs:List Value} (h:w.ownsRow base e size v n xs) {p:Addr} (hne:some p.block ≠ v.ownBlock) (u:Value):(w.setCell p u).ownsRow base e size v n xs:=by
 obtain ⟨h1,h2⟩:=h
 refine ⟨h1,?_⟩
 rcases h2 with h2 | ⟨g,cap,cur,rfl,hg,hh,r⟩
 · exact .inl h2
 · exact .inr ⟨g,cap,cur,rfl,hg,by rw [Below.heap_setCell _ _ _ _ (fun e => hne (by rw [e];rfl))];exact hh,r⟩
theorem blk_set {w:World} {g:Nat} {t:TypeId} {cs:Array Value} (h:w.heap[g]? = some (.cells cs t (0,0))) (i:Nat) (u:Value):(w.setCell ⟨g,i,none⟩ u).heap[g]? = some (.cells (cs.setIfInBounds i u) t (0,0)):=by
 simp [World.setCell,Array.getElem?_modify,h]
theorem blk_far {w:World} {g:Nat} {t:TypeId} {cs:Array Value} (h:w.heap[g]? = some (.cells cs t (0,0))) {p:Addr} (hp:g ≠ p.block) (u:Value):(w.setCell p u).heap[g]? = some (.cells cs t (0,0)):=(Below.heap_setCell w p u g hp).trans h
theorem blk_lt {w:World} {g:Nat} {o:Obj} (h:w.heap[g]? = some o):g < w.heap.size:=(Array.getElem?_eq_some_iff.1 h).1
theorem u1f {w:World} {g:Nat} {t:TypeId} {cs:Array Value} (h:w.heap[g]? = some (.cells cs t (0,0))) (i:Nat):w.cell? ⟨g,i,none⟩ = cs[i]? := cell_of_row w g i cs t (0,0) h
theorem u1a {w:World} {g:Nat} {t:TypeId} {cs:Array Value} (h:w.heap[g]? = some (.cells cs t (0,0))) (i:Nat):w.frozen? ⟨g,i,none⟩ = false:=by simp [World.frozen?,h]
theorem blk_grown {w w1:World} {g:Nat} {o:Obj} {row:Option Nat} (h:w.heap[g]? = some o) (hg:w.grownBy w1 row) (hne:some g ≠ row):w1.heap[g]? = some o:=(hg.block g (blk_lt h) hne).trans h
theorem blk_ne {w:World} {g g':Nat} {t t':TypeId} {cs cs':Array Value} (h:w.heap[g]? = some (.cells cs t (0,0))) (h':w.heap[g']? = some (.cells cs' t' (0,0))) (hne:t ≠ t'):g ≠ g':=by
 rintro rfl
 rw [h] at h'
 injection h' with h'
 injection h' with _ ht
 exact hne ht
def uz (w w':World) (g:Nat) (row:Option Nat):Prop:=w.heap.size ≤ w'.heap.size ∧ ∀ i,i < w.heap.size → i ≠ g → some i ≠ row → w'.heap[i]? = w.heap[i]?
theorem uz.refl (w:World) (g:Nat) (row:Option Nat):uz w w g row:=⟨Nat.le_refl _,fun _ _ _ _ => rfl⟩
theorem uz.of_grown {w w1:World} {row:Option Nat} (h:w.grownBy w1 row) (g:Nat):uz w w1 g row:=⟨h.size,fun i hi _ hr => h.block i hi hr⟩
theorem uz.of_below {w w1:World} (h:Below w.heap.size w w1) (g:Nat) (row:Option Nat):uz w w1 g row:=⟨h.size,fun i hi _ _ => h.block i hi⟩
theorem uz.set_ {w w1:World} {g:Nat} {row:Option Nat} (h:uz w w1 g row) (j:Nat) (u:Value):uz w (w1.setCell ⟨g,j,none⟩ u) g row :=
 ⟨by simpa [World.setCell] using h.1,fun i hi hg hr => (Below.heap_setCell w1 ⟨g,j,none⟩ u i hg).trans (h.2 i hi hg hr)⟩
theorem uz.trans {w w1 w2:World} {g:Nat} {row row1:Option Nat} (h:uz w w1 g row) (k:uz w1 w2 g row1) (hr:row1 = row ∨ ∃ b,row1 = some b ∧ w.heap.size ≤ b):uz w w2 g row :=
 ⟨Nat.le_trans h.1 k.1,fun i hi hg hn => by
   refine (k.2 i (Nat.lt_of_lt_of_le hi h.1) hg ?_).trans (h.2 i hi hg hn)
   rcases hr with rfl | ⟨b,rfl,hb⟩
   · exact hn
   · intro e
     injection e with e
     omega⟩
theorem uz.blk {w w1:World} {g g':Nat} {row:Option Nat} {o:Obj} (h:uz w w1 g row) (hb:w.heap[g']? = some o) (hg:g' ≠ g) (hr:some g' ≠ row):w1.heap[g']? = some o:=(h.2 g' (blk_lt hb) hg hr).trans hb
theorem uz.own {w w1:World} {g:Nat} {row:Option Nat} {base:Nat} {e:TypeId} {size n:Nat} {v:Value} {xs:List Value} (h:uz w w1 g row) (ho:w.ownsRow base e size v n xs) (hg:v.ownBlock ≠ some g) (hr:v.ownBlock = none ∨ v.ownBlock ≠ row):w1.ownsRow base e size v n xs:=by
 obtain ⟨h1,h2⟩:=ho
 refine ⟨h1,?_⟩
 rcases h2 with h2 | ⟨b,cap,cur,rfl,hb,hh,r⟩
 · exact .inl h2
 · refine .inr ⟨b,cap,cur,rfl,hb,h.blk hh ?_ ?_,r⟩
   · intro e
     exact hg (by rw [← e];rfl)
   · rcases hr with hr | hr
     · simp [Value.ownBlock] at hr
     · exact hr
def Ev {α:Type} (g:Nat → Option α) (r:α):Prop:=∃ K,∀ k,K ≤ k → g k = some r
theorem Ev.of {α:Type} {g:Nat → Option α} {r:α} (hg:∀ k,LeO (g k) (g (k + 1))) {k:Nat} (h:g k = some r):Ev g r:=⟨k,fun _ hk => at_rounds hg hk h⟩
theorem Ev.now {α:Type} (r:α):Ev (fun _ => some r) r:=⟨0,fun _ _ => rfl⟩
theorem Ev.rounds {α:Type} {g:Nat → Option α} {r:α} (h:Ev g r):∃ k,g k = some r:=by
 obtain ⟨K,h⟩:=h
 exact ⟨K,h K (Nat.le_refl _)⟩
theorem Ev.bind {α β:Type} {g:Nat → Option α} {f:Nat → α → Option β} {a:α} {r:β} (h:Ev g a) (k:Ev (fun n => f n a) r):Ev (fun n => (g n).bind (f n)) r:=by
 obtain ⟨K,h⟩:=h
 obtain ⟨K',k⟩:=k
 refine ⟨max K K',fun n hn => ?_⟩
 have h1:=h n (by omega)
 have h2:=k n (by omega)
 simp only [h1,Option.bind_some]
 exact h2
theorem Ev.step {α:Type} {g f:Nat → Option α} {r:α} (h:∀ k,g (k + 1) = f k) (k:Ev f r):Ev g r:=by
 obtain ⟨K,k⟩:=k
 refine ⟨K + 1,fun n hn => ?_⟩
 obtain ⟨m,rfl⟩:∃ m,n = m + 1:=⟨n - 1,by omega⟩
 rw [h]
 exact k m (by omega)
theorem Ev.congr {α:Type} {g f:Nat → Option α} {r:α} (h:∀ k,g k = f k) (k:Ev f r):Ev g r:=by
 obtain ⟨K,k⟩:=k
 exact ⟨K,fun n hn => (h n).trans (k n hn)⟩
section
variable {P:Program} {ops:Array Oper} {o:Oper} {a:Act} {Q:Exit → Act → World → Prop} {K:Act → World → Prop}
end
theorem own_weaken {w:World} {base base':Nat} {e:TypeId} {size n:Nat} {v:Value} {xs:List Value} (h:w.ownsRow base e size v n xs) (hb:base' ≤ base):w.ownsRow base' e size v n xs:=by
 obtain ⟨h1,h2⟩:=h
 refine ⟨h1,?_⟩
 rcases h2 with h2 | ⟨g,cap,cur,rfl,hg,r⟩
 · exact .inl h2
 · exact .inr ⟨g,cap,cur,rfl,Nat.le_trans hb hg,r⟩
section
variable {α:Type} {enc:α → Value} {d:α}
def encs (enc:α → Value) (xs:List α):List Value:=xs.map enc
def rdOf (d:α) (xs:List α) (i:Int):α:=xs.getD i.toNat d
theorem encs_length (xs:List α):(encs enc xs).length = xs.length:=by simp [encs]
def ReadsOf (enc:α → Value) (d:α) (w:World) (A:Option Addr) (n:Nat) (xs:List α):Prop :=
 xs.length = n ∧ n ≤ 9223372036854775807 ∧ (0 < n → ∃ ad,A = some ad ∧ ∀ j,j < n → w.cell? (ad.add j) = some (enc (xs.getD j d)))
theorem ReadsOf.at_ {w:World} {A:Option Addr} {n:Nat} {xs:List α} (h:ReadsOf enc d w A n xs) (i:Int) (h0:0 ≤ i) (h1:i < n):∃ ad,A = some ad ∧ w.cell? (ad.add i.toNat) = some (enc (rdOf d xs i)):=by
 obtain ⟨ad,e,hc⟩:=h.2.2 (by omega)
 exact ⟨ad,e,hc _ (by omega)⟩
theorem ReadsOf.below {w w1:World} {A:Option Addr} {n:Nat} {xs:List α} (h:ReadsOf enc d w A n xs) (hb:Below w.heap.size w w1):ReadsOf enc d w1 A n xs :=
 ⟨h.1,h.2.1,fun hn => by
   obtain ⟨ad,e,hc⟩:=h.2.2 hn
   exact ⟨ad,e,fun j hj => pw_cell_below hb (hc j hj)⟩⟩
end
section
variable {α:Type} {P:Program} {ops:Array Oper} {rest:List Oper} {o:Oper} {a:Act} {Q:Exit → Act → World → Prop}
end
theorem u1v {w:World} {g:Nat} {o:Obj} (h:w.heap[g]? = some o) (o':Obj):(w.alloc o').heap[g]? = some o:=(Below.heap_alloc w o' g (blk_lt h)).trans h
theorem u1z {w:World} {g:Nat} {o:Obj} (h:w.heap[g]? = some o):w.drew.heap[g]? = some o:=h
theorem u1u {w:World} {g:Nat} {o:Obj} (h:w.heap[g]? = some o) (n:Nat):(w.drewN n).heap[g]? = some o:=h
theorem blk_below {w w1:World} {g:Nat} {o:Obj} (h:w.heap[g]? = some o) (hb:Below w.heap.size w w1):w1.heap[g]? = some o:=(hb.block g (blk_lt h)).trans h
theorem blk_new (w:World) (o:Obj):(w.alloc o).heap[w.heap.size]? = some o:=heap_alloc_new w o
section
variable {P:Program}
end
theorem own_le {w:World} {base n m c size:Nat} {e:TypeId} {A:Option Addr} {xs:List Value} (h:w.ownsRow base e size (.slice A m c) n xs):m ≤ c:=by
 rcases h.2 with ⟨he,_⟩ | ⟨g,cap,cur,he,_,_,hnc,_⟩
 · injection he with _ h2 h3
   omega
 · injection he with _ h2 h3
   omega
def OwnRow {α:Type} (R:α → List Value → Prop) (e:TypeId) (size:Nat) (w:World) (base:Nat) (v:Value) (ps:List α):Prop :=
 ∃ inner,w.ownsRow base e size v ps.length inner ∧ Reps R size ps inner
section
variable {α:Type} {R R':α → List Value → Prop} {e:TypeId} {size:Nat} {w w1:World} {base:Nat} {v:Value} {ps:List α}
theorem OwnRow.none_ (R:α → List Value → Prop) (e:TypeId) (size:Nat) (w:World) (base:Nat):OwnRow R e size w base (.slice none 0 0) []:=⟨[],own_nil _ _ _ _,Reps.none _ _⟩
theorem OwnRow.imp_ (h:OwnRow R e size w base v ps) (hR:∀ p c,R p c → R' p c):OwnRow R' e size w base v ps:=by
 obtain ⟨inner,ho,hr⟩:=h
 exact ⟨inner,ho,hr.imp_ hR⟩
theorem OwnRow.below (h:OwnRow R e size w base v ps) (hb:Below w.heap.size w w1):OwnRow R e size w1 base v ps:=by
 obtain ⟨inner,ho,hr⟩:=h
 exact ⟨inner,pw_own_below ho hb,hr⟩
theorem OwnRow.other (h:OwnRow R e size w base v ps) {row:Option Nat} (hg:w.grownBy w1 row) (hne:v.ownBlock = none ∨ v.ownBlock ≠ row):OwnRow R e size w1 base v ps:=by
 obtain ⟨inner,ho,hr⟩:=h
 exact ⟨inner,own_other ho hg hne,hr⟩
theorem OwnRow.set_ (h:OwnRow R e size w base v ps) {g:Nat} {t:TypeId} {cells:Array Value} (hb:w.heap[g]? = some (.cells cells t (0,0))) (ht:e ≠ t) (j:Nat) (u:Value):OwnRow R e size (w.setCell ⟨g,j,none⟩ u) base v ps:=by
 obtain ⟨inner,ho,hr⟩:=h
 exact ⟨inner,own_setCell ho (own_ne ho hb ht) u,hr⟩
theorem OwnRow.keep (h:OwnRow R e size w base v ps) {g:Nat} {t:TypeId} {cells:Array Value} (hb:w.heap[g]? = some (.cells cells t (0,0))) (ht:e ≠ t) (hk:uz w w1 g none):OwnRow R e size w1 base v ps:=by
 obtain ⟨inner,ho,hr⟩:=h
 exact ⟨inner,hk.own ho (Ne.symm (own_ne ho hb ht)) (by cases v.ownBlock <;> simp),hr⟩
theorem OwnRow.reads (h:OwnRow R e size w base v ps):∃ A c,v = .slice A ps.length c ∧ ps.length ≤ c ∧ ReadsRow R size w A ps.length ps:=by
 obtain ⟨inner,ho,hr⟩:=h
 obtain ⟨A,c,rfl,hrow⟩:=own_reads_row ho hr rfl
 exact ⟨A,c,rfl,own_le ho,hrow⟩
theorem OwnRow.ne_block (h:OwnRow R e size w base v ps) {g:Nat} {t:TypeId} {cells:Array Value} (hb:w.heap[g]? = some (.cells cells t (0,0))) (ht:e ≠ t):some g ≠ v.ownBlock:=by
 obtain ⟨inner,ho,hr⟩:=h
 exact own_ne ho hb ht
theorem OwnRow.lit (W:World) (base:Nat) {inner:List Value} (hr:Reps R size ps inner) (hb:base ≤ W.heap.size) (hm:ps.length ≤ 9223372036854775807) :
 OwnRow R e size (W.alloc (.cells inner.toArray e)) base (.slice (some ⟨W.heap.size,0,none⟩) ps.length ps.length) ps:=by
 have h:=World.ownsRow_lit (base:=base) (e:=e) (size:=size) W inner.toArray ps.length hb (by simpa [maxLen] using hm) (by simpa using hr.1)
 exact ⟨inner,by simpa using h,hr⟩
end
section
variable {P:Program} {ops:Array Oper} {rest:List Oper} {o:Oper} {a:Act} {Q:Exit → Act → World → Prop} {α:Type} {R:α → List Value → Prop}
theorem OwnRow.append {w0 W:World} (base:Nat) (hgd:o.guard = none) (s x:Operand) (t e:TypeId) (z:Value) (size bytes:Nat)
 (ho:o.op = .call { callee:=.builtin .append,args:=#[s,x],argTypes:=#[t,t] })
 (ht:P.underlying t = some (.slice e)) (hinfo:(P.info? e).map (fun i => (i.zero,i.size,i.bytes)) = some (some z,size,bytes)) (hz:z.cells.size = size) (hs0:0 < size) (hb0:0 < bytes)
 (v:Value) (ps:List α) (p:α) (cs:List Value) (hs:a.eval s = v) (hx:a.eval x = .slice (some ⟨W.heap.size,0,none⟩) 1 1) (hp:R p cs) (hcs:cs.length = size) (h1:∀ u ∈ cs,u.oneCell' = true)
 (HO:OwnRow R e size W base v ps) (HB:Below base w0 W) (hbase:base ≤ W.heap.size) (hl:(ps.length + 1) * bytes ≤ 140737488355328)
 (h:∀ v1 w1,OwnRow R e size w1 base v1 (ps ++ [p]) → Below base w0 w1 → W.grownBy w1 v.ownBlock → (v1.ownBlock = v.ownBlock ∨ ∃ b,v1.ownBlock = some b ∧ W.heap.size ≤ b) → wpList P ops Q rest (a.put o.dst v1) w1) :
 wpList P ops Q (o :: rest) a (W.alloc (.cells cs.toArray e)):=by
 obtain ⟨inner,hown,hr⟩:=HO
 refine print_append_cells base hgd s x t e z size bytes ho ht hinfo hz hs0 hb0 v ps.length inner cs hs hx hcs h1 hown HB hbase hl ?_
 intro v1 w1 hown1 hb1 hg1 hat1
 exact h v1 w1 ⟨inner ++ cs,by rw [List.length_append,List.length_singleton];exact hown1,hr.snoc hp hcs⟩ hb1 hg1 hat1
end
section
variable {P:Program} {ops:Array Oper} {o:Oper} {a:Act} {Q:Exit → Act → World → Prop} {K:Act → World → Prop} {α:Type} {R:α → List Value → Prop}
end
theorem ReadsRow.inner_ {α:Type} {R:α → List Value → Prop} {size:Nat} {w:World} {ad:Addr} {n:Nat} {ps:List α} (h:ReadsRow R size w (some ad) n ps) :
 ∃ inner,Reps R size ps inner ∧ ∀ j u,inner[j]? = some u → w.cell? (ad.add j) = some u:=by
 have key:∀ m,m ≤ ps.length → ∃ inner,Reps R size (ps.take m) inner ∧ ∀ j u,inner[j]? = some u → w.cell? (ad.add j) = some u:=by
  intro m
  induction m with
  | zero => exact fun _ => ⟨[],Reps.none _ _,fun j u hu => by simp at hu⟩
  | succ m ih =>
    intro hm
    obtain ⟨inner,hr,hc⟩:=ih (by omega)
    obtain ⟨ad',he,hcell⟩:=h.2.2 (by have:=h.1;omega)
    injection he with he
    subst he
    obtain ⟨c,hcl,hp,hcc⟩:=hcell m _ (List.getElem?_eq_getElem (show m < ps.length by omega))
    refine ⟨inner ++ c,?_,fun j u hu => ?_⟩
    · rw [List.take_succ_eq_append_getElem (show m < ps.length by omega)]
      exact hr.snoc hp hcl
    · have hil:inner.length = m * size:=by rw [hr.1,List.length_take,Nat.min_eq_left (by omega)]
      rcases Nat.lt_or_ge j inner.length with hj | hj
      · rw [List.getElem?_append_left hj] at hu
        exact hc j u hu
      · rw [List.getElem?_append_right hj] at hu
        have:=hcc (j - inner.length) u hu
        rwa [hil,Nat.add_sub_cancel' (by omega)] at this
 obtain ⟨inner,hr,hc⟩:=key ps.length (Nat.le_refl _)
 rw [List.take_length] at hr
 exact ⟨inner,hr,hc⟩
section
variable {α:Type} {P:Program}
end
section
variable {P:Program} {ops:Array Oper} {rest:List Oper} {o:Oper} {a:Act} {Q:Exit → Act → World → Prop}
theorem u2i {w0 W:World} (base:Nat) (hgd:o.guard = none) (s x:Operand) (t u e:TypeId)
 (ho:o.op = .call { callee:=.builtin .append,args:=#[s,x],argTypes:=#[t,u] })
 (ht:P.underlying t = some (.slice e)) (hu:P.underlying u = some .string) (hinfo:(P.info? e).map (fun i => (i.zero,i.size,i.bytes)) = some (some (.int .u8 0),1,1))
 (v:Value) (xs:List Int) (y:ByteArray) (hs:a.eval s = v) (hx:a.eval x = .string y)
 (HO:W.ownsRow base e 1 v xs.length (nums .u8 xs)) (HB:Below base w0 W) (hbase:base ≤ W.heap.size) (hl:xs.length + y.size ≤ 140737488355328)
 (h:∀ v1 w1,w1.ownsRow base e 1 v1 (xs ++ bytesOf y).length (nums .u8 (xs ++ bytesOf y)) → Below base w0 w1 → W.grownBy w1 v.ownBlock → wpList P ops Q rest (a.put o.dst v1) w1) :
 wpList P ops Q (o :: rest) a W:=by
 obtain ⟨i0,hi,hzz⟩:=Option.map_eq_some_iff.1 hinfo
 simp only [Prod.mk.injEq] at hzz
 obtain ⟨hz0,hz1,hz2⟩:=hzz
 refine Lib.wpList_append_own_string W hgd s x t u ho base e i0 ht hu hi hz0 hz1 hz2 v xs.length (nums .u8 xs) hs HO y hx (by simp only [maxLen];omega) hl hbase ?_
 intro v1 w1 hown hg _
 have hl2:(xs ++ bytesOf y).length = xs.length + y.size:=by rw [List.length_append,bytesOf_length]
 have hc:nums .u8 (xs ++ bytesOf y) = nums .u8 xs ++ Lib.strCells y:=by
  rw [nums_append]
  congr 1
  simp [nums,bytesOf,Lib.strCells]
 exact h v1 w1 (by rw [hl2,hc];exact hown) (HB.grown hg hbase (own_base HO)) hg
end
structure Kd (α:Type) where
 sz:Nat
 E:List Nat
 K:World → α → List Value → Prop
 M:World → Nat → (Nat → Prop) → α → List Value → Prop
 K_len:∀ {w x cs},K w x cs → cs.length = sz
 K_one:∀ {w x cs},K w x cs → ∀ u ∈ cs,u.oneCell' = true
 K_below:∀ {w w1:World} {x cs},Below w.heap.size w w1 → K w x cs → K w1 x cs
 K_of_M:∀ {w base ok x cs},M w base ok x cs → K w x cs
 M_mono:∀ {w base ok ok' x cs},(∀ k,ok k → ok' k) → M w base ok x cs → M w base ok' x cs
 M_bound:∀ {w:World} {base ok x cs},M w base ok x cs → M w base (fun k => ok k ∧ base ≤ k ∧ k < w.heap.size ∧ ∃ q,q ∈ E ∧ ∃ cells,w.heap[k]? = some (.cells cells q (0,0))) x cs
 M_move:∀ {w w1:World} {base ok x cs},(∀ k,ok k → w1.heap[k]? = w.heap[k]?) → M w base ok x cs → M w1 base ok x cs
 M_lower:∀ {w base base' ok x cs},base' ≤ base → M w base ok x cs → M w base' ok x cs
theorem own_move {w w1:World} {base:Nat} {e:TypeId} {size n:Nat} {v:Value} {xs:List Value} (h:w.ownsRow base e size v n xs) (hm:∀ k,v.ownBlock = some k → w1.heap[k]? = w.heap[k]?):w1.ownsRow base e size v n xs:=by
 obtain ⟨h1,h2⟩:=h
 refine ⟨h1,?_⟩
 rcases h2 with h2 | ⟨g,cap,cur,rfl,hg,hh,r⟩
 · exact .inl h2
 · exact .inr ⟨g,cap,cur,rfl,hg,(hm g (by simp [Value.ownBlock])).trans hh,r⟩
theorem own_typed {w:World} {base:Nat} {e:TypeId} {size n:Nat} {v:Value} {xs:List Value} (h:w.ownsRow base e size v n xs) (k:Nat) (hk:v.ownBlock = some k):∃ cells,w.heap[k]? = some (.cells cells e (0,0)):=by
 rcases h.2 with ⟨rfl,_⟩ | ⟨g,cap,cur,rfl,hg,hh,r⟩
 · simp [Value.ownBlock] at hk
 · have:g = k:=by simpa [Value.ownBlock] using hk
   subst this
   exact ⟨cur,hh⟩
namespace Kd
def C {α:Type} (d:Kd α) (w:World) (A:Option Addr) (n:Nat) (xs:List α):Prop:=ReadsRow (d.K w) d.sz w A n xs
def R {α:Type} (d:Kd α) (e:Nat) (w:World) (base:Nat) (ok:Nat → Prop) (v:Value) (xs:List α):Prop :=
 (∀ k,v.ownBlock = some k → ok k) ∧ OwnRow (d.M w base (fun k => ok k ∧ some k ≠ v.ownBlock)) e d.sz w base v xs
section
variable {α:Type} {d:Kd α} {e:Nat} {w w1:World} {base:Nat} {ok ok':Nat → Prop} {v:Value} {xs:List α}
theorem C_below {A:Option Addr} {n:Nat} (h:d.C w A n xs) (hb:Below w.heap.size w w1):d.C w1 A n xs:=ReadsRow.imp_ h hb (fun _ _ hp => d.K_below hb hp)
theorem R_nil (d:Kd α) (e:Nat) (w:World) (base:Nat) (ok:Nat → Prop):d.R e w base ok (.slice none 0 0) []:=⟨fun k hk => by simp [Value.ownBlock] at hk,OwnRow.none_ _ _ _ _ _⟩
theorem R_mono (h:d.R e w base ok v xs) (hok:∀ k,ok k → ok' k):d.R e w base ok' v xs:=⟨fun k hk => hok k (h.1 k hk),h.2.imp_ (fun _ _ hp => d.M_mono (fun k hk => ⟨hok k hk.1,hk.2⟩) hp)⟩
theorem R_bound (h:d.R e w base ok v xs):d.R e w base (fun k => ok k ∧ base ≤ k ∧ k < w.heap.size ∧ ∃ q,q ∈ e :: d.E ∧ ∃ cells,w.heap[k]? = some (.cells cells q (0,0))) v xs:=by
 obtain ⟨h0,inner,ho,hr⟩:=h
 refine ⟨fun k hk => ?_,inner,ho,hr.imp_ (fun _ _ hp => d.M_mono (fun k hk => ?_) (d.M_bound hp))⟩
 · obtain ⟨cells,hc⟩:=own_typed ho k hk
   exact ⟨h0 k hk,own_base ho k hk,own_lt ho k hk,e,List.mem_cons_self,cells,hc⟩
 · obtain ⟨⟨h1,h2⟩,h3,h4,q,hq,hc⟩:=hk
   exact ⟨⟨h1,h3,h4,q,List.mem_cons_of_mem _ hq,hc⟩,h2⟩
theorem R_move (h:d.R e w base ok v xs) (hm:∀ k,ok k → w1.heap[k]? = w.heap[k]?):d.R e w1 base ok v xs:=by
 obtain ⟨h0,inner,ho,hr⟩:=h
 exact ⟨h0,inner,own_move ho (fun k hk => hm k (h0 k hk)),hr.imp_ (fun _ _ hp => d.M_move (fun k hk => hm k hk.1) hp)⟩
theorem R_lower {base':Nat} (h:d.R e w base ok v xs) (hb:base' ≤ base):d.R e w base' ok v xs:=by
 obtain ⟨h0,inner,ho,hr⟩:=h
 exact ⟨h0,inner,own_weaken ho hb,hr.imp_ (fun _ _ hp => d.M_lower hb hp)⟩
theorem R_step (h:d.R e w base ok v xs) (hm:∀ k,ok k → k < w.heap.size → w1.heap[k]? = w.heap[k]?):d.R e w1 base ok v xs :=
 R_mono (R_move (R_bound h) (fun k hk => hm k hk.1 hk.2.2.1)) (fun _ hk => hk.1)
theorem M_step {x:α} {cs:List Value} (h:d.M w base ok x cs) (hm:∀ k,ok k → k < w.heap.size → w1.heap[k]? = w.heap[k]?):d.M w1 base ok x cs :=
 d.M_mono (fun _ hk => hk.1) (d.M_move (fun k hk => hm k hk.1 hk.2.2.1) (d.M_bound h))
theorem R_below (h:d.R e w base ok v xs) (hb:Below w.heap.size w w1):d.R e w1 base ok v xs:=R_step h (fun k _ hk => hb.block k hk)
theorem M_below {x:α} {cs:List Value} (h:d.M w base ok x cs) (hb:Below w.heap.size w w1):d.M w1 base ok x cs:=M_step h (fun k _ hk => hb.block k hk)
theorem R_far (h:d.R e w base ok v xs) {p:Addr} (hok:∀ k,ok k → k ≠ p.block) (u:Value):d.R e (w.setCell p u) base ok v xs:=R_step h (fun k ho _ => Below.heap_setCell w p u k (hok k ho))
theorem R_keep (h:d.R e w base ok v xs) {g:Nat} (hk:uz w w1 g none) (hok:∀ k,ok k → k ≠ g):d.R e w1 base ok v xs:=R_step h (fun k ho hlt => hk.2 k hlt (hok k ho) (by simp))
theorem R_types (h:d.R e w base ok v xs) {g t:Nat} {cells:Array Value} (hb:w.heap[g]? = some (.cells cells t (0,0))) (ht:∀ q,q ∈ e :: d.E → q ≠ t):d.R e w base (fun k => ok k ∧ k ≠ g) v xs :=
 R_mono (R_bound h) (fun k hk => ⟨hk.1,by
  obtain ⟨_,_,_,q,hq,cells',hc⟩:=hk
  rintro rfl
  rw [hc] at hb
  injection hb with hb
  injection hb with _ hb
  exact ht q hq hb⟩)
theorem R_set (h:d.R e w base ok v xs) {g t:Nat} {cells:Array Value} (hb:w.heap[g]? = some (.cells cells t (0,0))) (ht:∀ q,q ∈ e :: d.E → q ≠ t) (j:Nat) (u:Value):d.R e (w.setCell ⟨g,j,none⟩ u) base ok v xs :=
 R_mono (R_far (p:=⟨g,j,none⟩) (R_types h hb ht) (fun _ hk => hk.2) u) (fun _ hk => hk.1)
theorem R_reads (h:d.R e w base ok v xs):∃ A c,v = .slice A xs.length c ∧ xs.length ≤ c ∧ d.C w A xs.length xs:=by
 obtain ⟨A,c,he,hl,hr⟩:=OwnRow.reads h.2
 exact ⟨A,c,he,hl,hr.imp_ (Below.refl _ _) (fun _ _ hp => d.K_of_M hp)⟩
theorem R_slice (h:d.R e w base ok v xs):∃ A c,v = .slice A xs.length c:=by
 obtain ⟨A,c,he,_⟩:=R_reads h
 exact ⟨A,c,he⟩
theorem R_own (h:d.R e w base ok v xs):∃ inner,w.ownsRow base e d.sz v xs.length inner:=by
 obtain ⟨_,inner,ho,_⟩:=h
 exact ⟨inner,ho⟩
theorem R_ne (h:d.R e w base ok v xs) {g t:Nat} {cells:Array Value} (hb:w.heap[g]? = some (.cells cells t (0,0))) (ht:e ≠ t):some g ≠ v.ownBlock:=OwnRow.ne_block h.2 hb ht
end
def scalar {α:Type} (enc:α → Value) (h1:∀ x,(enc x).oneCell' = true):Kd α where
 sz:=1
 E:=[]
 K:=fun _ x cs => cs = [enc x]
 M:=fun _ _ _ x cs => cs = [enc x]
 K_len:=fun h => by rw [h];rfl
 K_one:=fun h u hu => by
  rw [h] at hu
  rw [List.mem_singleton.1 hu]
  exact h1 _
 K_below:=fun _ h => h
 K_of_M:=fun h => h
 M_mono:=fun _ h => h
 M_bound:=fun h => h
 M_move:=fun _ h => h
 M_lower:=fun _ h => h
def int (k:IntKind):Kd Int:=scalar (Value.int k) (fun _ => rfl)
def bool:Kd Bool:=scalar Value.bool (fun _ => rfl)
def string:Kd ByteArray:=scalar Value.string (fun _ => rfl)
def slice {α:Type} (e:Nat) (d:Kd α):Kd (List α) where
 sz:=1
 E:=e :: d.E
 K:=fun w xs cs => ∃ A c,cs = [.slice A xs.length c] ∧ xs.length ≤ c ∧ d.C w A xs.length xs
 M:=fun w base ok xs cs => ∃ v,cs = [v] ∧ d.R e w base ok v xs
 K_len:=by
  rintro w x cs ⟨A,c,rfl,_⟩
  rfl
 K_one:=by
  rintro w x cs ⟨A,c,rfl,_⟩ u hu
  rw [List.mem_singleton.1 hu]
  rfl
 K_below:=by
  rintro w w1 x cs hb ⟨A,c,rfl,hl,hr⟩
  exact ⟨A,c,rfl,hl,C_below hr hb⟩
 K_of_M:=by
  rintro w base ok x cs ⟨v,rfl,h⟩
  obtain ⟨A,c,rfl,hl,hr⟩:=R_reads h
  exact ⟨A,c,rfl,hl,hr⟩
 M_mono:=by
  rintro w base ok ok' x cs hok ⟨v,rfl,h⟩
  exact ⟨v,rfl,R_mono h hok⟩
 M_bound:=by
  rintro w base ok x cs ⟨v,rfl,h⟩
  exact ⟨v,rfl,R_bound h⟩
 M_move:=by
  rintro w w1 base ok x cs hm ⟨v,rfl,h⟩
  exact ⟨v,rfl,R_move h hm⟩
 M_lower:=by
  rintro w base base' ok x cs hb ⟨v,rfl,h⟩
  exact ⟨v,rfl,R_lower h hb⟩
def pair {α β:Type} (a:Kd α) (b:Kd β):Kd (α × β) where
 sz:=a.sz + b.sz
 E:=a.E ++ b.E
 K:=fun w x cs => ∃ c0 c1,cs = c0 ++ c1 ∧ a.K w x.1 c0 ∧ b.K w x.2 c1
 M:=fun w base ok x cs => ∃ c0 c1,cs = c0 ++ c1 ∧ a.M w base ok x.1 c0 ∧ b.M w base ok x.2 c1
 K_len:=by
  rintro w x cs ⟨c0,c1,rfl,h0,h1⟩
  rw [List.length_append,a.K_len h0,b.K_len h1]
 K_one:=by
  rintro w x cs ⟨c0,c1,rfl,h0,h1⟩ u hu
  rcases List.mem_append.1 hu with hu | hu
  · exact a.K_one h0 u hu
  · exact b.K_one h1 u hu
 K_below:=by
  rintro w w1 x cs hb ⟨c0,c1,rfl,h0,h1⟩
  exact ⟨c0,c1,rfl,a.K_below hb h0,b.K_below hb h1⟩
 K_of_M:=by
  rintro w base ok x cs ⟨c0,c1,rfl,h0,h1⟩
  exact ⟨c0,c1,rfl,a.K_of_M h0,b.K_of_M h1⟩
 M_mono:=by
  rintro w base ok ok' x cs hok ⟨c0,c1,rfl,h0,h1⟩
  exact ⟨c0,c1,rfl,a.M_mono hok h0,b.M_mono hok h1⟩
 M_bound:=by
  rintro w base ok x cs ⟨c0,c1,rfl,h0,h1⟩
  refine ⟨c0,c1,rfl,a.M_mono ?_ (a.M_bound h0),b.M_mono ?_ (b.M_bound h1)⟩
  · rintro k ⟨h2,h3,h4,q,hq,hc⟩
    exact ⟨h2,h3,h4,q,List.mem_append_left _ hq,hc⟩
  · rintro k ⟨h2,h3,h4,q,hq,hc⟩
    exact ⟨h2,h3,h4,q,List.mem_append_right _ hq,hc⟩
 M_move:=by
  rintro w w1 base ok x cs hm ⟨c0,c1,rfl,h0,h1⟩
  exact ⟨c0,c1,rfl,a.M_move hm h0,b.M_move hm h1⟩
 M_lower:=by
  rintro w base base' ok x cs hb ⟨c0,c1,rfl,h0,h1⟩
  exact ⟨c0,c1,rfl,a.M_lower hb h0,b.M_lower hb h1⟩
def iso {α β:Type} (d:Kd α) (f:β → α):Kd β where
 sz:=d.sz
 E:=d.E
 K:=fun w x cs => d.K w (f x) cs
 M:=fun w base ok x cs => d.M w base ok (f x) cs
 K_len:=d.K_len
 K_one:=d.K_one
 K_below:=d.K_below
 K_of_M:=d.K_of_M
 M_mono:=d.M_mono
 M_bound:=d.M_bound
 M_move:=d.M_move
 M_lower:=d.M_lower
def bot {α:Type} (sz:Nat) (E:List Nat):Kd α where
 sz:=sz
 E:=E
 K:=fun _ _ _ => False
 M:=fun _ _ _ _ _ => False
 K_len:=fun h => h.elim
 K_one:=fun h => h.elim
 K_below:=fun _ h => h
 K_of_M:=fun h => h
 M_mono:=fun _ h => h
 M_bound:=fun h => h
 M_move:=fun _ h => h
 M_lower:=fun _ h => h
def upto {α:Type} (F:Kd α → Kd α) (sz:Nat) (E:List Nat):Nat → Kd α
 | 0 => bot sz E
 | n + 1 => F (upto F sz E n)
theorem C_get {α:Type} {d:Kd α} {w:World} {A:Option Addr} {n:Nat} {xs:List α} (h:d.C w A n xs) (z:α) (i:Int) (h0:0 ≤ i) (h1:i < n) :
 ∃ ad c,A = some ad ∧ c.length = d.sz ∧ d.K w (xs.getD i.toNat z) c ∧ ∀ j u,c[j]? = some u → w.cell? (ad.add (i.toNat * d.sz + j)) = some u:=ReadsRow.get_ h z i h0 h1
theorem R_appended {α:Type} {d:Kd α} {e base:Nat} {ok okp:Nat → Prop} {W w1:World} {v v1:Value} {xs:List α} {p:α} {inner cs:List Value} (h0:∀ k,v.ownBlock = some k → ok k) (hr:Reps (d.M W base (fun k => ok k ∧ some k ≠ v.ownBlock)) d.sz xs inner) (hp:d.M W base okp p cs) (hokp:∀ k,okp k → ok k ∧ some k ≠ v.ownBlock) (hfresh:∀ k,W.heap.size ≤ k → ok k)
 (hown:w1.ownsRow base e d.sz v1 (xs.length + 1) (inner ++ cs)) (hg:W.grownBy w1 v.ownBlock) (hat:v1.ownBlock = v.ownBlock ∨ ∃ b,v1.ownBlock = some b ∧ W.heap.size ≤ b):d.R e w1 base ok v1 (xs ++ [p]):=by
 have hne:∀ k,some k ≠ v.ownBlock → k < W.heap.size → some k ≠ v1.ownBlock:=by
  intro k hk hlt
  rcases hat with hat | ⟨b,hb,hle⟩
  · rw [hat];exact hk
  · rw [hb]
    intro he
    injection he with he
    omega
 have step:∀ {q:α} {c:List Value} {o:Nat → Prop},d.M W base o q c → (∀ k,o k → ok k ∧ some k ≠ v.ownBlock) → d.M w1 base (fun k => ok k ∧ some k ≠ v1.ownBlock) q c:=by
  intro q c o hq ho
  have h1:=d.M_move (w1:=w1) (fun k hk => hg.block k hk.2.2.1 (ho k hk.1).2) (d.M_bound hq)
  exact d.M_mono (fun k hk => ⟨(ho k hk.1).1,hne k (ho k hk.1).2 hk.2.2.1⟩) h1
 refine ⟨fun k hk => ?_,inner ++ cs,by rw [List.length_append,List.length_singleton];exact hown,?_⟩
 · rcases hat with hat | ⟨b,hb,hle⟩
   · exact h0 k (hat ▸ hk)
   · rw [hb] at hk
     injection hk with hk
     exact hfresh k (by omega)
 · exact (hr.imp_ (fun _ _ hq => step hq (fun _ hk => hk))).snoc (step hp hokp) (d.K_len (d.K_of_M hp))
section
variable {P:Program} {ops:Array Oper} {rest:List Oper} {o:Oper} {a:Act} {Q:Exit → Act → World → Prop} {α:Type}
theorem R_append (d:Kd α) {w0 W:World} (base:Nat) (hgd:o.guard = none) (s x:Operand) (t e:TypeId) (z:Value) (bytes:Nat)
 (ho:o.op = .call { callee:=.builtin .append,args:=#[s,x],argTypes:=#[t,t] })
 (ht:P.underlying t = some (.slice e)) (hinfo:(P.info? e).map (fun i => (i.zero,i.size,i.bytes)) = some (some z,d.sz,bytes)) (hz:z.cells.size = d.sz) (hs0:0 < d.sz) (hb0:0 < bytes)
 (v:Value) (xs:List α) (p:α) (cs:List Value) (ok okp:Nat → Prop) (hs:a.eval s = v) (hx:a.eval x = .slice (some ⟨W.heap.size,0,none⟩) 1 1) (hp:d.M W base okp p cs) (hokp:∀ k,okp k → ok k ∧ some k ≠ v.ownBlock) (hfresh:∀ k,W.heap.size ≤ k → ok k)
 (HO:d.R e W base ok v xs) (HB:Below base w0 W) (hbase:base ≤ W.heap.size) (hl:(xs.length + 1) * bytes ≤ 140737488355328)
 (h:∀ v1 w1,d.R e w1 base ok v1 (xs ++ [p]) → Below base w0 w1 → W.grownBy w1 v.ownBlock → (v1.ownBlock = v.ownBlock ∨ ∃ b,v1.ownBlock = some b ∧ W.heap.size ≤ b) → wpList P ops Q rest (a.put o.dst v1) w1) :
 wpList P ops Q (o :: rest) a (W.alloc (.cells cs.toArray e)):=by
 obtain ⟨h0,inner,hown,hr⟩:=HO
 refine print_append_cells base hgd s x t e z d.sz bytes ho ht hinfo hz hs0 hb0 v xs.length inner cs hs hx (d.K_len (d.K_of_M hp)) (d.K_one (d.K_of_M hp)) hown HB hbase hl ?_
 intro v1 w1 hown1 hb1 hg1 hat1
 exact h v1 w1 (R_appended h0 hr hp hokp hfresh hown1 hg1 hat1) hb1 hg1 hat1
end
section
variable {P:Program} {ops:Array Oper} {o:Oper} {a:Act} {Q:Exit → Act → World → Prop} {Kc:Act → World → Prop} {α:Type}
end
theorem reps_scalar {α:Type} {enc:α → Value} (xs:List α):Reps (fun (x:α) (cs:List Value) => cs = [enc x]) 1 xs (encs enc xs):=by
 refine ⟨by simp [encs],fun j p hj => ?_⟩
 obtain ⟨hl,hp⟩:=List.getElem?_eq_some_iff.1 hj
 have hl':j < (encs enc xs).length:=by rw [encs_length];exact hl
 rw [Nat.mul_one,List.drop_eq_getElem_cons hl']
 simp [encs,hp]
theorem R_of_own {α:Type} {enc:α → Value} {h1:∀ x,(enc x).oneCell' = true} {e:Nat} {w:World} {base:Nat} {ok:Nat → Prop} {v:Value} {xs:List α} (ho:w.ownsRow base e 1 v xs.length (encs enc xs)) (hok:∀ k,v.ownBlock = some k → ok k):(scalar enc h1).R e w base ok v xs:=⟨hok,encs enc xs,ho,reps_scalar xs⟩
theorem own_of_R {α:Type} {enc:α → Value} {h1:∀ x,(enc x).oneCell' = true} {e:Nat} {w:World} {base:Nat} {ok:Nat → Prop} {v:Value} {xs:List α} (h:(scalar enc h1).R e w base ok v xs):w.ownsRow base e 1 v xs.length (encs enc xs):=by
 obtain ⟨_,inner,ho,hr⟩:=h
 have:inner = encs enc xs:=by
  apply List.ext_getElem?
  intro j
  rcases Nat.lt_or_ge j xs.length with hj | hj
  · have h2:=hr.2 j _ (List.getElem?_eq_getElem hj)
    have hl:j < inner.length:=by have:=hr.1;simp [scalar] at this;omega
    have h3:(inner.drop (j * 1)).take 1 = [enc xs[j]]:=h2
    rw [Nat.mul_one,List.drop_eq_getElem_cons hl] at h3
    have h4:inner[j] = enc xs[j]:=by
     have h5:=congrArg List.head? h3
     rw [List.take_succ_cons] at h5
     exact Option.some.inj h5
    rw [List.getElem?_eq_getElem hl,h4]
    simp [encs,List.getElem?_eq_getElem hj]
  · have h3:inner.length = xs.length:=by have:=hr.1;simp [scalar] at this;omega
    rw [List.getElem?_eq_none (by omega),List.getElem?_eq_none (by rw [encs_length];omega)]
 rw [← this]
 exact ho
theorem C_of_reads {α:Type} {enc:α → Value} {d:α} {h1:∀ x,(enc x).oneCell' = true} {w:World} {A:Option Addr} {n:Nat} {xs:List α} (h:ReadsOf enc d w A n xs):(scalar enc h1).C w A n xs:=by
 refine ⟨h.1,h.2.1,fun hn => ?_⟩
 obtain ⟨ad,e,hc⟩:=h.2.2 hn
 refine ⟨ad,e,fun j p hj => ⟨[enc p],rfl,rfl,fun i u hu => ?_⟩⟩
 obtain ⟨hl,hp⟩:=List.getElem?_eq_some_iff.1 hj
 have h2:=hc j (by have:=h.1;omega)
 rw [List.getD_eq_getElem?_getD,hj] at h2
 cases i with
 | zero =>
   have:enc p = u:=by simpa using hu
   subst this
   simpa [scalar] using h2
 | succ i => simp at hu
theorem reads_of_C {α:Type} {enc:α → Value} {d:α} {h1:∀ x,(enc x).oneCell' = true} {w:World} {A:Option Addr} {n:Nat} {xs:List α} (h:(scalar enc h1).C w A n xs):ReadsOf enc d w A n xs:=by
 refine ⟨h.1,h.2.1,fun hn => ?_⟩
 obtain ⟨ad,e,hc⟩:=h.2.2 hn
 refine ⟨ad,e,fun j hj => ?_⟩
 have hl:j < xs.length:=by have:=h.1;omega
 obtain ⟨c,_,hK,hcell⟩:=hc j _ (List.getElem?_eq_getElem hl)
 have hK':c = [enc xs[j]]:=hK
 subst hK'
 have:=hcell 0 _ rfl
 simpa [scalar,List.getD_eq_getElem?_getD,List.getElem?_eq_getElem hl] using this
end Kd
namespace Kd
section
variable {α:Type} {F:Kd α → Kd α} {sz:Nat} {E:List Nat} {hs:∀ n,(upto F sz E n).sz = sz} {hE:∀ n q,q ∈ (upto F sz E n).E → q ∈ E}
end
end Kd
namespace Kd
end Kd
namespace Kd
section
variable {α β:Type} {d:Kd α} {d':Kd β} {e e':Nat} {w w1 W:World} {base b b':Nat} {ok ok' okv oku:Nat → Prop} {v u:Value} {xs:List α} {ys:List β}
theorem R_alloc (h:d.R e w base ok v xs) (o:Obj):d.R e (w.alloc o) base ok v xs:=R_below h (uf (Below.refl _ _) o)
theorem R_drew (h:d.R e w base ok v xs):d.R e w.drew base ok v xs:=R_below h (below_drew (Below.refl _ _))
theorem R_drewN (h:d.R e w base ok v xs) (m:Nat):d.R e (w.drewN m) base ok v xs:=R_below h (ud (Below.refl _ _) m)
theorem C_alloc {A:Option Addr} {n:Nat} (h:d.C w A n xs) (o:Obj):d.C (w.alloc o) A n xs:=C_below h (uf (Below.refl _ _) o)
theorem C_drew {A:Option Addr} {n:Nat} (h:d.C w A n xs):d.C w.drew A n xs:=C_below h (below_drew (Below.refl _ _))
theorem C_drewN {A:Option Addr} {n:Nat} (h:d.C w A n xs) (m:Nat):d.C (w.drewN m) A n xs:=C_below h (ud (Below.refl _ _) m)
theorem C_nil (d:Kd α) (w:World):d.C w none ([]:List α).length []:=⟨rfl,by simp,fun h => absurd h (Nat.lt_irrefl 0)⟩
theorem R_reads' {A:Option Addr} {n c:Nat} (h:d.R e w base ok (.slice A n c) xs):n = xs.length ∧ n ≤ c ∧ d.C w A xs.length xs:=by
 obtain ⟨A',c',he,hl,hr⟩:=R_reads h
 injection he with h1 h2 h3
 subst h1
 exact ⟨h2,by omega,hr⟩
theorem R_lt (h:d.R e w base ok v xs):∀ k,v.ownBlock = some k → k < w.heap.size:=by
 obtain ⟨inner,ho⟩:=R_own h
 exact own_lt ho
theorem R_base (h:d.R e w base ok v xs):∀ k,v.ownBlock = some k → base ≤ k:=by
 obtain ⟨inner,ho⟩:=R_own h
 exact own_base ho
theorem R_form (h:d.R e w base ok v xs) (hp:0 < xs.length):∃ g cap,v = .slice (some ⟨g,0,none⟩) xs.length cap ∧ base ≤ g ∧ g < w.heap.size ∧ ∃ cells,w.heap[g]? = some (.cells cells e (0,0)):=by
 obtain ⟨inner,ho⟩:=R_own h
 obtain ⟨g,cap,he,hb,hl⟩:=ho.form hp
 obtain ⟨cells,hc⟩:=own_typed ho g (by rw [he];simp [Value.ownBlock])
 exact ⟨g,cap,he,hb,hl,cells,hc⟩
theorem R_over (h:d.R e W b ok u xs) (hv:d'.R e' W b' ok' v ys) (ht:∀ q,q ∈ e :: d.E → q ≠ e') (hg:W.grownBy w1 v.ownBlock):d.R e w1 b ok u xs:=by
 obtain ⟨inner,ho⟩:=R_own hv
 refine R_mono (R_move (R_bound h) (fun k hk => hg.block k hk.2.2.1 (fun he => ?_))) (fun _ hk => hk.1)
 obtain ⟨_,_,_,q,hq,cells,hc⟩:=hk
 obtain ⟨cells',hc'⟩:=own_typed ho k he.symm
 rw [hc] at hc'
 injection hc' with hc'
 injection hc' with _ hc'
 exact ht q hq hc'
end
section
variable {w W:World} {A:Option Addr} {n:Nat}
theorem at_int {k:IntKind} {xs:List Int} (h:(Kd.int k).C w A n xs) (i:Int) (h0:0 ≤ i) (h1:i < n):∃ ad,A = some ad ∧ w.cell? (ad.add i.toNat) = some (.int k (rd xs i)) :=
 ReadsOf.at_ (reads_of_C (enc:=Value.int k) (d:=(0:Int)) (h1:=fun _ => rfl) h) i h0 h1
variable {α:Type} {enc:α → Value} {h1:∀ x,(enc x).oneCell' = true} {e base g cap:Nat} {ok:Nat → Prop} {xs:List α}
end
section
variable {P:Program} {ops:Array Oper} {rest:List Oper} {o:Oper} {a:Act} {Q:Exit → Act → World → Prop}
theorem event_run {W w1:World} {v:Value} (hgd:o.guard = none) (hrun:(execOp a.eval o).run P W = .ok (.value v) w1) (h:wpList P ops Q rest (a.put o.dst v) w1):wpList P ops Q (o :: rest) a W:=by
 refine wpList_plain hgd fun K hK => ?_
 unfold Oper.wp
 rw [hrun]
 exact hK _ _ h
variable {α:Type}
theorem R_lit (d:Kd α) {w0 W:World} (base e:Nat) (hgd:o.guard = none) {N:Tmp} (_hd:o.dst = some N) {xs:List α} {inner:List Value} {ok okp:Nat → Prop}
 (hrun:(execOp a.eval o).run P W = .ok (.value (.slice (some ⟨W.heap.size,0,none⟩) xs.length xs.length)) (W.alloc (.cells inner.toArray e)))
 (hrep:Reps (d.M W base okp) d.sz xs inner) (hok:∀ k,okp k → ok k) (hfresh:ok W.heap.size) (HB:Below base w0 W) (hbase:base ≤ W.heap.size) (hm:xs.length ≤ 9223372036854775807)
 (h:∀ v1 w1,d.R e w1 base ok v1 xs → Below base w0 w1 → W.grownBy w1 none → (∃ b,v1.ownBlock = some b ∧ W.heap.size ≤ b) → wpList P ops Q rest (a.put o.dst v1) w1):wpList P ops Q (o :: rest) a W:=by
 refine event_run hgd hrun (h _ _ ⟨fun k hk => ?_,inner,?_,?_⟩ (HB.alloc hbase _) (World.grownBy_alloc W _ none) ⟨W.heap.size,by simp [Value.ownBlock],Nat.le_refl _⟩)
 · have:W.heap.size = k:=by simpa [Value.ownBlock] using hk
   subst this
   exact hfresh
 · have h2:=World.ownsRow_lit (base:=base) (e:=e) (size:=d.sz) W inner.toArray xs.length hbase (by simpa [maxLen] using hm) (by simpa using hrep.1)
   simpa using h2
 · refine hrep.imp_ (fun p c hp => d.M_mono (fun k hk => ⟨hok k hk.1,fun he => ?_⟩) (M_below (d.M_bound hp) (uf (Below.refl _ _) _)))
   have h3:k = W.heap.size:=by simpa [Value.ownBlock] using he
   have:=hk.2.2.1
   omega
end
end Kd
theorem own_take {w:World} {base n m c size:Nat} {e:TypeId} {A:Option Addr} {xs:List Value} (h:w.ownsRow base e size (.slice A n c) n xs) (hm:m ≤ n):w.ownsRow base e size (.slice A m c) m (xs.take (m * size)):=by
 obtain ⟨h1,h2⟩:=h
 refine ⟨by rw [List.length_take,h1];exact Nat.min_eq_left (Nat.mul_le_mul_right _ hm),?_⟩
 rcases h2 with ⟨he,h0⟩ | ⟨g,cap,cur,he,hb,hh,hnc,hcm,hcs,ht⟩
 · injection he with ha _ hc
   subst ha;subst hc
   exact .inl ⟨by rw [show m = 0 by omega],by omega⟩
 · injection he with ha _ hc
   subst ha;subst hc
   refine .inr ⟨g,c,cur,rfl,hb,hh,by omega,hcm,hcs,?_⟩
   rw [← ht,List.take_take,Nat.min_eq_left (Nat.mul_le_mul_right _ hm)]
section
variable {P:Program}
end
def QRow (w:World) (base:Nat) (e:TypeId) (size:Nat) (v:Value) (n:Nat) (xs:List Value):Prop :=
 xs.length = n * size ∧
 ((n = 0 ∧ ∃ A,v = .slice A 0 0 ∧ ∀ a,A = some a → base ≤ a.block ∧ ∃ cur,w.heap[a.block]? = some (.cells cur e (0,0))) ∨
  ∃ g off cap cur,v = .slice (some ⟨g,off * size,none⟩) n cap ∧ base ≤ g ∧ w.heap[g]? = some (.cells cur e (0,0)) ∧ n ≤ cap ∧ off + cap ≤ maxLen ∧ cur.size = (off + cap) * size ∧ (cur.toList.drop (off * size)).take (n * size) = xs)
section
variable {w w1:World} {base n size:Nat} {e:TypeId} {v:Value} {xs:List Value}
theorem q_typed (h:QRow w base e size v n xs) (k:Nat) (hk:v.ownBlock = some k):base ≤ k ∧ ∃ cells,w.heap[k]? = some (.cells cells e (0,0)):=by
 rcases h.2 with ⟨_,A,rfl,hA⟩ | ⟨g,off,cap,cur,rfl,hg,hh,r⟩
 · cases A with
   | none => simp [Value.ownBlock] at hk
   | some a =>
     have:a.block = k:=by simpa [Value.ownBlock] using hk
     subst this
     exact hA a rfl
 · have:g = k:=by simpa [Value.ownBlock] using hk
   subst this
   exact ⟨hg,cur,hh⟩
theorem q_slice (h:QRow w base e size v n xs):∃ A c,v = .slice A n c ∧ n ≤ c:=by
 rcases h.2 with ⟨h0,A,rfl,_⟩ | ⟨g,off,cap,cur,rfl,hg,hh,hnc,r⟩
 · exact ⟨A,0,by rw [h0],by omega⟩
 · exact ⟨_,cap,rfl,hnc⟩
theorem q_max (h:QRow w base e size v n xs):n ≤ 9223372036854775807:=by
 rcases h.2 with ⟨h0,_⟩ | ⟨g,off,cap,cur,rfl,hg,hh,hnc,hm,r⟩
 · omega
 · simp only [maxLen] at hm
   omega
theorem add_at (g o j:Nat):(⟨g,o,none⟩:Addr).add j = ⟨g,o + j,none⟩:=by unfold Addr.add;split <;> simp_all
theorem q_cells {A:Option Addr} {c:Nat} (h:QRow w base e size (.slice A n c) n xs) (hn:0 < n):∃ ad,A = some ad ∧ ∀ j u,xs[j]? = some u → w.cell? (ad.add j) = some u:=by
 rcases h.2 with ⟨h0,_⟩ | ⟨g,off,cap,cur,he,hg,hh,hnc,hm,hcs,ht⟩
 · omega
 · injection he with ha _ hc
   subst ha
   refine ⟨_,rfl,fun j u hu => ?_⟩
   rw [add_at,cell_of_row w g _ cur e (0,0) hh]
   rw [← ht,List.getElem?_take] at hu
   split at hu
   · rw [List.getElem?_drop] at hu
     rw [← Array.getElem?_toList]
     exact hu
   · cases hu
theorem setCells_far {g:Nat}:∀ (vs:List Value) (o:Nat) {w:World} (k:Nat),k ≠ g → (w.setCells g o vs).heap[k]? = w.heap[k]?
 | [],_,_,_,_ => rfl
 | v :: r,o,w,k,hk => by
   rw [World.setCells,setCells_far r (o + 1) k hk]
   exact Below.heap_setCell w ⟨g,o,none⟩ v k hk
theorem setCells_same (g:Nat):∀ (vs:List Value) (o:Nat) (w:World),(w.setCells g o vs).os = w.os ∧ (w.setCells g o vs).tape = w.tape ∧ (w.setCells g o vs).output = w.output ∧ (w.setCells g o vs).heap.size = w.heap.size
 | [],_,_ => ⟨rfl,rfl,rfl,rfl⟩
 | v :: r,o,w => by
   obtain ⟨h1,h2,h3,h4⟩:=setCells_same g r (o + 1) (w.setCell ⟨g,o,none⟩ v)
   rw [World.setCells]
   exact ⟨h1,h2,h3,by rw [h4];simp [World.setCell]⟩
theorem setCells_row {g:Nat} {e:TypeId}:∀ (vs:List Value) (o:Nat) (w:World) (cur:Array Value),w.heap[g]? = some (.cells cur e (0,0)) → o + vs.length ≤ cur.size →
 ∃ cur',(w.setCells g o vs).heap[g]? = some (.cells cur' e (0,0)) ∧ cur'.size = cur.size ∧ cur'.toList = cur.toList.take o ++ vs ++ cur.toList.drop (o + vs.length)
 | [],o,w,cur,h,_ => ⟨cur,h,rfl,by simp⟩
 | v :: r,o,w,cur,h,hl => by
   have h2:=blk_set h o v
   simp only [List.length_cons] at hl
   obtain ⟨cur',h3,h4,h5⟩:=setCells_row r (o + 1) (w.setCell ⟨g,o,none⟩ v) _ h2 (by simp;omega)
   refine ⟨cur',h3,by rw [h4];simp,?_⟩
   rw [h5,Array.toList_setIfInBounds]
   have ho:o < cur.toList.length:=by rw [Array.length_toList];omega
   rw [List.take_set,List.drop_set_of_lt (by omega)]
   simp only [List.length_cons]
   rw [show o + 1 + r.length = o + (r.length + 1) by omega]
   congr 1
   rw [List.take_succ_eq_append_getElem ho,List.set_append_right _ _ (by rw [List.length_take];omega)]
   have ho':o < cur.size:=by omega
   simp [Nat.min_eq_left (Nat.le_of_lt ho')]
end
section
variable {P:Program}
end
namespace Kd
theorem reps_take {α:Type} {R:α → List Value → Prop} {size m:Nat} {ps:List α} {cs:List Value} (h:Reps R size ps cs) (hm:m ≤ ps.length):Reps R size (ps.take m) (cs.take (m * size)):=by
 refine ⟨by rw [List.length_take,List.length_take,h.1,Nat.min_eq_left hm,Nat.min_eq_left (Nat.mul_le_mul_right _ hm)],fun j p hj => ?_⟩
 rw [List.getElem?_take] at hj
 split at hj
 · rename_i hjm
   have:=h.2 j p hj
   have hle:j * size + size ≤ m * size:=by rw [← Nat.succ_mul];exact Nat.mul_le_mul_right _ hjm
   rw [List.drop_take,List.take_take,Nat.min_eq_left (by omega)]
   exact this
 · cases hj
theorem R_take {α:Type} {d:Kd α} {e m n c:Nat} {w:World} {base:Nat} {ok:Nat → Prop} {A:Option Addr} {xs:List α} (h:d.R e w base ok (.slice A n c) xs) (hm:m ≤ xs.length):d.R e w base ok (.slice A m c) (xs.take m):=by
 obtain ⟨h0,inner,ho,hr⟩:=h
 have hn:n = xs.length:=by
  obtain ⟨A',c',he⟩:=own_slice ho
  injection he
 subst hn
 have hb:∀ x y:Nat,(Value.slice A x c).ownBlock = (Value.slice A y c).ownBlock:=by
  intro x y
  cases A <;> rfl
 refine ⟨fun k hk => h0 k (by rw [hb _ m];exact hk),inner.take (m * d.sz),?_,?_⟩
 · rw [List.length_take,Nat.min_eq_left hm]
   exact own_take ho hm
 · rw [hb m xs.length]
   exact reps_take hr hm
def Q {α:Type} (d:Kd α) (e:Nat) (w:World) (base:Nat) (ok:Nat → Prop) (v:Value) (xs:List α):Prop :=
 (∀ k,v.ownBlock = some k → ok k) ∧ ∃ inner,QRow w base e d.sz v xs.length inner ∧ Reps (d.M w base (fun k => ok k ∧ some k ≠ v.ownBlock)) d.sz xs inner
section
variable {α:Type} {d:Kd α} {e:Nat} {w w1 W:World} {base:Nat} {ok ok':Nat → Prop} {v:Value} {xs:List α}
theorem Q_reads' {A:Option Addr} {n c:Nat} (h:d.Q e w base ok (.slice A n c) xs):n = xs.length ∧ n ≤ c ∧ d.C w A xs.length xs:=by
 obtain ⟨_,inner,ho,hr⟩:=h
 obtain ⟨A',c',he,hl⟩:=q_slice ho
 injection he with h1 h2 h3
 subst h1;subst h2;subst h3
 refine ⟨rfl,hl,rfl,q_max ho,fun hp => ?_⟩
 obtain ⟨ad,ha,hc⟩:=q_cells ho hp
 refine ⟨ad,ha,fun j p hj => ⟨(inner.drop (j * d.sz)).take d.sz,?_,d.K_of_M (hr.2 j p hj),fun i u hu => ?_⟩⟩
 · have hjl:=(List.getElem?_eq_some_iff.1 hj).1
   have h1:j * d.sz + d.sz ≤ inner.length:=by rw [hr.1,← Nat.succ_mul];exact Nat.mul_le_mul_right _ hjl
   rw [List.length_take,List.length_drop]
   omega
 · refine hc _ u ?_
   rw [List.getElem?_take] at hu
   split at hu
   · rw [List.getElem?_drop] at hu
     exact hu
   · cases hu
end
section
variable {P:Program} {ops:Array Oper} {rest:List Oper} {o:Oper} {a:Act} {Q':Exit → Act → World → Prop} {Kc:Act → World → Prop} {α:Type}
end
end Kd
namespace Kd
section
variable {α:Type} {d:Kd α} {e e':Nat} {w w1 W:World} {base:Nat} {ok:Nat → Prop} {u v:Value} {xs:List α}
theorem R_typed (h:d.R e w base ok v xs):∀ k,v.ownBlock = some k → ∃ cells,w.heap[k]? = some (.cells cells e (0,0)):=by
 obtain ⟨inner,ho⟩:=R_own h
 exact fun k hk => own_typed ho k hk
theorem R_over' (h:d.R e W base ok u xs) (hty:∀ k,v.ownBlock = some k → ∃ cells,W.heap[k]? = some (.cells cells e' (0,0))) (ht:∀ q,q ∈ e :: d.E → q ≠ e') (hg:W.grownBy w1 v.ownBlock):d.R e w1 base ok u xs:=by
 refine R_mono (R_move (R_bound h) (fun k hk => hg.block k hk.2.2.1 (fun he => ?_))) (fun _ hk => hk.1)
 obtain ⟨_,_,_,q,hq,cells,hc⟩:=hk
 obtain ⟨cells',hc'⟩:=hty k he.symm
 rw [hc] at hc'
 injection hc' with hc'
 injection hc' with _ hc'
 exact ht q hq hc'
end
end Kd
theorem seg_get {α:Type} (a seg:List α) (o:Nat) (h:o + seg.length ≤ a.length) (q:Nat) :
 (a.take o ++ seg ++ a.drop (o + seg.length))[q]? = if q < o then a[q]? else if q < o + seg.length then seg[q - o]? else a[q]? := by
 have hl:(a.take o).length = o:=by rw [List.length_take];omega
 rw [List.append_assoc]
 by_cases h1:q < o
 · rw [if_pos h1,List.getElem?_append_left (by omega),List.getElem?_take,if_pos h1]
 · rw [if_neg h1,List.getElem?_append_right (by omega),hl]
   by_cases h2:q < o + seg.length
   · rw [if_pos h2,List.getElem?_append_left (by omega)]
   · rw [if_neg h2,List.getElem?_append_right (by omega),List.getElem?_drop]
     congr 1
     omega
namespace Kd
section
variable {α:Type} {d:Kd α} {e base g n cap:Nat} {ok okp:Nat → Prop} {W:World} {xs:List α}
theorem R_elem (h:d.R e W base ok (.slice (some ⟨g,0,none⟩) n cap) xs) (z:α) (i:Int) (h0:0 ≤ i) (h1:i < n) :
 ∃ c,c.length = d.sz ∧ d.M W base (fun k => ok k ∧ k ≠ g) (xs.getD i.toNat z) c ∧ (∀ j u,c[j]? = some u → W.cell? ⟨g,i.toNat * d.sz + j,none⟩ = some u) ∧ ∀ j,W.frozen? ⟨g,i.toNat * d.sz + j,none⟩ = false:=by
 obtain ⟨hn,hnc,hC⟩:=R_reads' h
 obtain ⟨_,inner,ho,hr⟩:=h
 have hil:i.toNat < xs.length:=by omega
 have hseg:i.toNat * d.sz + d.sz ≤ inner.length:=by rw [hr.1,← Nat.succ_mul];exact Nat.mul_le_mul_right _ hil
 have hM:=hr.2 i.toNat _ (List.getElem?_eq_getElem hil)
 refine ⟨(inner.drop (i.toNat * d.sz)).take d.sz,by rw [List.length_take,List.length_drop];omega,?_,fun j u hu => ?_,fun j => ?_⟩
 · rw [List.getD_eq_getElem?_getD,List.getElem?_eq_getElem hil]
   exact d.M_mono (fun k hk => ⟨hk.1,fun he => hk.2 (by rw [he];simp [Value.ownBlock])⟩) hM
 · rw [List.getElem?_take] at hu
   split at hu
   · rw [List.getElem?_drop] at hu
     have:=ho.cells (g:=g) (by simp [Value.ownBlock]) _ u hu
     rwa [add_plain] at this
   · cases hu
 · obtain ⟨cells,hc⟩:=own_typed ho g (by simp [Value.ownBlock])
   exact u1a hc _
theorem R_seg (h:d.R e W base ok (.slice (some ⟨g,0,none⟩) n cap) xs) (i:Int) (h0:0 ≤ i) (h1:i < n) {c seg:List Value} {j:Nat} (hcl:c.length = d.sz) (hcc:∀ j u,c[j]? = some u → W.cell? ⟨g,i.toNat * d.sz + j,none⟩ = some u)
 (hj:j + seg.length ≤ d.sz) {x':α} (hM:d.M W base okp x' (c.take j ++ seg ++ c.drop (j + seg.length))) (hokp:∀ k,okp k → ok k ∧ k ≠ g) :
 d.R e (W.setCells g (i.toNat * d.sz + j) seg) base ok (.slice (some ⟨g,0,none⟩) n cap) (xs.set i.toNat x') ∧ W.grownBy (W.setCells g (i.toNat * d.sz + j) seg) (some g):=by
 obtain ⟨hn,hnc,_⟩:=R_reads' h
 obtain ⟨hok,inner,ho,hr⟩:=h
 have hil:i.toNat < xs.length:=by omega
 have hseg:i.toNat * d.sz + d.sz ≤ inner.length:=by rw [hr.1,← Nat.succ_mul];exact Nat.mul_le_mul_right _ hil
 have hin:inner.length = n * d.sz:=by rw [hr.1,hn]
 obtain ⟨ho1,ho2⟩:=ho
 rcases ho2 with ⟨hv,_⟩ | ⟨g',cap',cur,hv,hb,hh,hnc',hcm,hcs,ht⟩
 · cases hv
 injection hv with ha _ hc
 injection ha with ha
 injection ha with hg
 subst hg;subst hc
 have hfit:i.toNat * d.sz + j + seg.length ≤ cur.size:=by
  have:n * d.sz ≤ cap * d.sz:=Nat.mul_le_mul_right _ hnc
  omega
 obtain ⟨cur',h3,h4,h5⟩:=setCells_row seg (i.toNat * d.sz + j) W cur hh hfit
 obtain ⟨s1,s2,s3,s4⟩:=setCells_same g seg (i.toNat * d.sz + j) W
 have hfar:∀ k,k ≠ g → (W.setCells g (i.toNat * d.sz + j) seg).heap[k]? = W.heap[k]? := fun k hk => setCells_far seg _ k hk
 -- the element's cells before are what was read
 have hcin:∀ q,q < d.sz → c[q]? = inner[i.toNat * d.sz + q]? := by
  intro q hq
  have hq':q < c.length:=by omega
  have h6:=hcc q _ (List.getElem?_eq_getElem hq')
  rw [cell_of_row W g _ cur e (0,0) hh] at h6
  rw [List.getElem?_eq_getElem hq',← h6,← ht,List.getElem?_take,if_pos (by rw [← hn];omega),Array.getElem?_toList]
 refine ⟨⟨hok,inner.take (i.toNat * d.sz + j) ++ seg ++ inner.drop (i.toNat * d.sz + j + seg.length),⟨?_,.inr ⟨g,cap,cur',by rw [List.length_set,hn],hb,h3,by rw [List.length_set,← hn];exact hnc,hcm,by rw [h4,hcs],?_⟩⟩,?_⟩,
  ⟨s1,s2,s3,by rw [s4];exact Nat.le_refl _,fun k _ hk => hfar k (fun he => hk (by rw [he]))⟩⟩
 · rw [List.length_set]
   simp only [List.length_append,List.length_take,List.length_drop]
   rw [hr.1] at hseg ⊢
   omega
 · rw [List.length_set,← hn]
   apply List.ext_getElem?
   intro q
   rw [List.getElem?_take,h5]
   rw [seg_get cur.toList seg (i.toNat * d.sz + j) (by rw [Array.length_toList];omega) q,seg_get inner seg (i.toNat * d.sz + j) (by omega) q]
   have hcur:∀ q,q < n * d.sz → cur.toList[q]? = inner[q]? := by
    intro q hq
    rw [← ht,List.getElem?_take,if_pos (by rw [← hn];exact hq)]
   by_cases hq:q < n * d.sz
   · rw [if_pos hq,hcur q hq]
   · rw [if_neg hq,if_neg (by omega),if_neg (by omega),List.getElem?_eq_none (by omega)]
 · refine ⟨?_,fun m p hm => ?_⟩
   · rw [List.length_set]
     simp only [List.length_append,List.length_take,List.length_drop]
     rw [hr.1] at hseg ⊢
     omega
   · have hml:m < xs.length:=by
      have:=(List.getElem?_eq_some_iff.1 hm).1
      rwa [List.length_set] at this
     have hmfit:m * d.sz + d.sz ≤ inner.length:=by rw [hr.1,← Nat.succ_mul];exact Nat.mul_le_mul_right _ hml
     have hgo:some g = (Value.slice (some ⟨g,0,none⟩) n cap).ownBlock:=by simp [Value.ownBlock]
     by_cases hmi:m = i.toNat
     · subst hmi
       rw [List.getElem?_set_self (by omega)] at hm
       injection hm with hm
       subst hm
       have hcells:((inner.take (i.toNat * d.sz + j) ++ seg ++ inner.drop (i.toNat * d.sz + j + seg.length)).drop (i.toNat * d.sz)).take d.sz = c.take j ++ seg ++ c.drop (j + seg.length):=by
        apply List.ext_getElem?
        intro q
        rw [List.getElem?_take,List.getElem?_drop,seg_get inner seg _ (by omega),seg_get c seg j (by omega) q]
        by_cases hq:q < d.sz
        · rw [if_pos hq,hcin q hq]
          by_cases hq1:q < j
          · rw [if_pos (by omega),if_pos hq1]
          · rw [if_neg (by omega),if_neg hq1]
            by_cases hq2:q < j + seg.length
            · rw [if_pos (by omega),if_pos hq2]
              congr 1
              omega
            · rw [if_neg (by omega),if_neg hq2]
        · rw [if_neg hq,if_neg (by omega),if_neg (by omega),List.getElem?_eq_none (by omega)]
       rw [hcells]
       refine d.M_mono (fun k hk => ?_) (d.M_move (w1:=W.setCells g (i.toNat * d.sz + j) seg) (fun k hk => hfar k (hokp k hk).2) hM)
       exact ⟨(hokp k hk).1,fun he => (hokp k hk).2 (by rw [← hgo] at he;injection he)⟩
     · rw [List.getElem?_set_ne (by omega)] at hm
       have hold:=hr.2 m p hm
       have hcells:((inner.take (i.toNat * d.sz + j) ++ seg ++ inner.drop (i.toNat * d.sz + j + seg.length)).drop (m * d.sz)).take d.sz = (inner.drop (m * d.sz)).take d.sz:=by
        apply List.ext_getElem?
        intro q
        rw [List.getElem?_take,List.getElem?_take,List.getElem?_drop,List.getElem?_drop,seg_get inner seg _ (by omega)]
        by_cases hq:q < d.sz
        · rw [if_pos hq,if_pos hq]
          rcases Nat.lt_or_gt_of_ne hmi with hlt | hgt
          · have:m * d.sz + d.sz ≤ i.toNat * d.sz:=by rw [← Nat.succ_mul];exact Nat.mul_le_mul_right _ hlt
            rw [if_pos (by omega)]
          · have:i.toNat * d.sz + d.sz ≤ m * d.sz:=by rw [← Nat.succ_mul];exact Nat.mul_le_mul_right _ hgt
            rw [if_neg (by omega),if_neg (by omega)]
        · rw [if_neg hq,if_neg hq]
       rw [hcells]
       refine d.M_move (fun k hk => hfar k (fun he => hk.2 (by rw [he];exact hgo))) hold
end
end Kd
namespace Kd
def fixed {α:Type} (d:Kd α) (w0:World):Kd α where
 sz:=d.sz
 E:=[]
 K:=fun _ x cs => d.K w0 x cs
 M:=fun _ _ _ x cs => d.K w0 x cs
 K_len:=d.K_len
 K_one:=d.K_one
 K_below:=fun _ h => h
 K_of_M:=fun h => h
 M_mono:=fun _ h => h
 M_bound:=fun h => h
 M_move:=fun _ h => h
 M_lower:=fun _ h => h
def or_ {α:Type} (a b:Kd α) (h:b.sz = a.sz):Kd α where
 sz:=a.sz
 E:=a.E ++ b.E
 K:=fun w x cs => a.K w x cs ∨ b.K w x cs
 M:=fun w base ok x cs => a.M w base ok x cs ∨ b.M w base ok x cs
 K_len:=fun hk => hk.elim a.K_len (fun hk => (b.K_len hk).trans h)
 K_one:=fun hk => hk.elim a.K_one b.K_one
 K_below:=fun hb hk => hk.imp (a.K_below hb) (b.K_below hb)
 K_of_M:=fun hk => hk.imp a.K_of_M b.K_of_M
 M_mono:=fun hok hk => hk.imp (a.M_mono hok) (b.M_mono hok)
 M_bound:=fun hk => hk.imp
  (fun hk => a.M_mono (fun _ ⟨h1,h2,h3,q,hq,hc⟩ => ⟨h1,h2,h3,q,List.mem_append_left _ hq,hc⟩) (a.M_bound hk))
  (fun hk => b.M_mono (fun _ ⟨h1,h2,h3,q,hq,hc⟩ => ⟨h1,h2,h3,q,List.mem_append_right _ hq,hc⟩) (b.M_bound hk))
 M_move:=fun hm hk => hk.imp (a.M_move hm) (b.M_move hm)
 M_lower:=fun hb hk => hk.imp (a.M_lower hb) (b.M_lower hb)
section
variable {α:Type} {F:Kd α → Kd α} {sz:Nat} {E:List Nat} {hs:∀ n,(upto F sz E n).sz = sz} {hE:∀ n q,q ∈ (upto F sz E n).E → q ∈ E}
end
end Kd
namespace Kd
theorem reps_append {α:Type} {R:α → List Value → Prop} {size:Nat} {ps qs:List α} {cs ds:List Value} (h:Reps R size ps cs) (h':Reps R size qs ds):Reps R size (ps ++ qs) (cs ++ ds):=by
 refine ⟨by rw [List.length_append,List.length_append,h.1,h'.1,Nat.add_mul],fun j p hj => ?_⟩
 rcases Nat.lt_or_ge j ps.length with hlt | hge
 · rw [List.getElem?_append_left hlt] at hj
   have hle:j * size + size ≤ cs.length:=by rw [h.1,← Nat.succ_mul];exact Nat.mul_le_mul_right _ hlt
   rw [List.drop_append_of_le_length (by omega),List.take_append_of_le_length (by rw [List.length_drop];omega)]
   exact h.2 j p hj
 · rw [List.getElem?_append_right hge] at hj
   have h2:=h'.2 (j - ps.length) p hj
   have hle:ps.length * size ≤ j * size:=Nat.mul_le_mul_right _ hge
   rw [List.drop_append,List.drop_eq_nil_of_le (by rw [h.1];exact hle),List.nil_append,h.1,← Nat.sub_mul]
   exact h2
section
variable {P:Program} {ops:Array Oper} {rest:List Oper} {o:Oper} {a:Act} {Q:Exit → Act → World → Prop} {α:Type}
theorem R_append_rows (d:Kd α) {Rr:α → List Value → Prop} {w0 W:World} (base:Nat) (hgd:o.guard = none) (s x:Operand) (t e:TypeId) (z:Value) (bytes:Nat)
 (ho:o.op = .call { callee:=.builtin .append,args:=#[s,x],argTypes:=#[t,t] })
 (ht:P.underlying t = some (.slice e)) (hinfo:(P.info? e).map (fun i => (i.zero,i.size,i.bytes)) = some (some z,d.sz,bytes)) (hz:z.cells.size = d.sz) (hs0:0 < d.sz) (hb0:0 < bytes)
 (v:Value) (xs ys:List α) (A:Option Addr) (m c:Nat) (ok okp:Nat → Prop) (hs:a.eval s = v) (hx:a.eval x = .slice A m c)
 (HO:d.R e W base ok v xs) (HR:ReadsRow Rr d.sz W A m ys) (hKM:∀ x cs,Rr x cs → d.M W base okp x cs) (hokp:∀ k,okp k → ok k ∧ some k ≠ v.ownBlock) (hfresh:∀ k,W.heap.size ≤ k → ok k)
 (HB:Below base w0 W) (hbase:base ≤ W.heap.size) (hl:(xs.length + m) * bytes ≤ 140737488355328)
 (h:∀ v1 w1,d.R e w1 base ok v1 (xs ++ ys) → Below base w0 w1 → W.grownBy w1 v.ownBlock → (v1.ownBlock = v.ownBlock ∨ ∃ b,v1.ownBlock = some b ∧ W.heap.size ≤ b) → wpList P ops Q rest (a.put o.dst v1) w1) :
 wpList P ops Q (o :: rest) a W:=by
 obtain ⟨i0,hi,hzz⟩:=Option.map_eq_some_iff.1 hinfo
 simp only [Prod.mk.injEq] at hzz
 obtain ⟨hz0,hz1,hz2⟩:=hzz
 have hm:ys.length = m:=HR.1
 have hlen:xs.length + m ≤ 140737488355328:=Nat.le_trans (Nat.le_mul_of_pos_right _ hb0) hl
 obtain ⟨hok,inner,hown,hr⟩:=HO
 have hrun:∃ v1 w1,(Builtin.append_ #[t,t] o.type #[v,.slice A m c]).run P W = .ok v1 w1 ∧ d.R e w1 base ok v1 (xs ++ ys) ∧ W.grownBy w1 v.ownBlock ∧ (v1.ownBlock = v.ownBlock ∨ ∃ b,v1.ownBlock = some b ∧ W.heap.size ≤ b):=by
  rcases A with _ | ad
  · have h0:m = 0:=by
     rcases Nat.eq_zero_or_pos m with h0 | h0
     · exact h0
     · obtain ⟨ad,h,_⟩:=HR.2.2 h0
       cases h
    subst h0
    obtain rfl:ys = []:=List.eq_nil_of_length_eq_zero hm
    refine ⟨v,W,?_,by rw [List.append_nil];exact ⟨hok,inner,hown,hr⟩,World.grownBy.refl W _,.inl rfl⟩
    rcases hown.2 with ⟨rfl,hn⟩ | ⟨g,cap,cur,rfl,_,_,hnc,_⟩
    · simp [Builtin.append_,run_underlying ht,sizeOf,typeInfo,hi,Builtin.lenOf,Builtin.firstCells]
    · simp [Builtin.append_,run_underlying ht,sizeOf,typeInfo,hi,Builtin.lenOf,Builtin.firstCells,hnc,storeCells]
  · obtain ⟨news,hnr,hnc⟩:=ReadsRow.inner_ HR
    have hnM:Reps (d.M W base okp) d.sz ys news:=hnr.imp_ (fun p c hp => hKM p c hp)
    have hone:∀ u ∈ news,u.oneCell' = true:=by
     intro u hu
     obtain ⟨q,hq,rfl⟩:=List.mem_iff_getElem.1 hu
     have hql:q / d.sz < ys.length:=by
      rw [Nat.div_lt_iff_lt_mul hs0]
      rw [← hnM.1]
      exact hq
     have hc:=hnM.2 (q / d.sz) _ (List.getElem?_eq_getElem hql)
     refine d.K_one (d.K_of_M hc) _ ?_
     rw [List.mem_iff_getElem?]
     refine ⟨q % d.sz,?_⟩
     rw [List.getElem?_take,if_pos (Nat.mod_lt _ hs0),List.getElem?_drop,Nat.mul_comm,Nat.div_add_mod,List.getElem?_eq_getElem hq]
    obtain ⟨v1,w1,hrun,h2,hg,_,hat⟩:=run_append_own_at (P:=P) W base t o.type e i0 z d.sz bytes ht hi hz0 hz1 hz2 hz hs0 v xs.length inner hown ad m c news (by rw [hnM.1,hm]) hnc hone (by simp only [maxLen];omega) hl hbase
    have hat':v1.ownBlock = v.ownBlock ∨ ∃ b,v1.ownBlock = some b ∧ W.heap.size ≤ b:=by
     rcases hat with hat | hat
     · exact .inl hat
     · exact .inr ⟨_,hat,Nat.le_refl _⟩
    have hne:∀ k,some k ≠ v.ownBlock → k < W.heap.size → some k ≠ v1.ownBlock:=by
     intro k hk hlt
     rcases hat' with hat | ⟨b,hb,hle⟩
     · rw [hat];exact hk
     · rw [hb]
       intro he
       injection he with he
       omega
    have step:∀ {q:α} {c:List Value} {o:Nat → Prop},d.M W base o q c → (∀ k,o k → ok k ∧ some k ≠ v.ownBlock) → d.M w1 base (fun k => ok k ∧ some k ≠ v1.ownBlock) q c:=by
     intro q c o hq ho
     have h1:=d.M_move (w1:=w1) (fun k hk => hg.block k hk.2.2.1 (ho k hk.1).2) (d.M_bound hq)
     exact d.M_mono (fun k hk => ⟨(ho k hk.1).1,hne k (ho k hk.1).2 hk.2.2.1⟩) h1
    refine ⟨v1,w1,hrun,⟨fun k hk => ?_,inner ++ news,by rw [List.length_append,hm];exact h2,reps_append (hr.imp_ (fun _ _ hq => step hq (fun _ hk => hk))) (hnM.imp_ (fun _ _ hq => step hq hokp))⟩,hg,hat'⟩
    rcases hat' with hat | ⟨b,hb,hle⟩
    · exact hok k (hat ▸ hk)
    · rw [hb] at hk
      injection hk with hk
      exact hfresh k (by omega)
 obtain ⟨v1,w1,hr1,h1,hg,hat⟩:=hrun
 refine wpList_plain hgd fun K hK => ?_
 unfold Oper.wp execOp
 simp only [ho,resolve,invoke,builtin,Sem.run_bind,Sem.run_pure,Result.andThen_ok,List.map_toArray,List.map_cons,List.map_nil,hs,hx,hr1]
 exact hK _ _ (h v1 w1 h1 (HB.grown hg hbase (own_base hown)) hg hat)
end
end Kd
namespace Kd
section
variable {P:Program} {ops:Array Oper} {rest:List Oper} {o:Oper} {a:Act} {Q:Exit → Act → World → Prop} {α:Type}
end
end Kd
theorem add_add (a:Addr) (i j:Nat):(a.add i).add j = a.add (i + j):=by
 unfold Addr.add
 by_cases h1:i = 0 <;> by_cases h2:j = 0 <;> simp [h1,h2,Nat.add_assoc]
namespace Kd
section
variable {α:Type} {k:Kd α} {w:World} {A:Option Addr} {xs:List α} {m c:Nat}
theorem C_take (h:k.C w A xs.length xs) (hm:m ≤ xs.length):k.C w A (xs.take m).length (xs.take m):=by
 have hl:(xs.take m).length = m:=by rw [List.length_take];omega
 refine ⟨rfl,by rw [hl];have:=h.2.1;omega,fun hp => ?_⟩
 obtain ⟨ad,e,hc⟩:=h.2.2 (by omega)
 refine ⟨ad,e,fun j p hj => hc j p ?_⟩
 rw [List.getElem?_take] at hj
 split at hj
 · exact hj
 · cases hj
theorem C_drop (h:k.C w A xs.length xs) (hm:m ≤ xs.length) (hc:xs.length ≤ c):k.C w (if c = m then A else A.map (·.add (m * k.sz))) (xs.drop m).length (xs.drop m):=by
 have hl:(xs.drop m).length = xs.length - m:=List.length_drop
 refine ⟨rfl,by rw [hl];have:=h.2.1;omega,fun hp => ?_⟩
 rw [hl] at hp
 obtain ⟨ad,rfl,hcell⟩:=h.2.2 (by omega)
 rw [if_neg (by omega)]
 refine ⟨ad.add (m * k.sz),rfl,fun j p hj => ?_⟩
 rw [List.getElem?_drop] at hj
 obtain ⟨cs,h1,h2,h3⟩:=hcell (m + j) p hj
 refine ⟨cs,h1,h2,fun i u hu => ?_⟩
 rw [add_add,show m * k.sz + (j * k.sz + i) = (m + j) * k.sz + i by rw [Nat.add_mul];omega]
 exact h3 i u hu
end
end Kd
section
variable {P:Program}
end
theorem string_of_reads {P:Program} {w:World} {src dst e:TypeId} {A:Option Addr} {n c:Nat} {xs:List Int} (hs:P.underlying src = some (.slice e)) (he:P.underlying e = some (.int .u8)) (hd:P.underlying dst = some .string)
 (h:ReadsInt w .u8 A n xs):(convert src dst (.slice A n c)).run P w = .ok (.string (strOfNums xs)) w:=by
 have hn:xs.length = n:=h.1
 rcases A with _ | ad
 · have h0:n = 0:=by
    rcases Nat.eq_zero_or_pos n with h0 | h0
    · exact h0
    · obtain ⟨ad,h',_⟩:=h.2.2 h0
      cases h'
   subst h0
   obtain rfl:xs = []:=List.eq_nil_of_length_eq_zero hn
   exact run_convert_bytes_nil w src e hs he 0 c dst hd
 · have hl:(loadCells ad n).run P w = .ok (xs.map (Value.int .u8)).toArray w:=by
    have:=run_loadCells_list (P:=P) w ad (xs.map (Value.int .u8)) (fun j v hj => by
     have hjl:j < xs.length:=by
      rcases Nat.lt_or_ge j xs.length with h' | h'
      · exact h'
      · rw [List.getElem?_eq_none (by rw [List.length_map];exact h')] at hj
        cases hj
     obtain ⟨ad',he',hc⟩:=h.2.2 (by omega)
     injection he' with he'
     subst he'
     rw [hc j (by omega)]
     rw [List.getElem?_map,List.getElem?_eq_getElem hjl] at hj
     simp at hj
     subst hj
     simp [List.getD_eq_getElem?_getD,List.getElem?_eq_getElem hjl])
    simpa [hn] using this
   rw [run_convert_bytes_string w src dst e _ n c hs he hd,run_bytesToString w ad n c xs hl,foldl_push_bytes]
   simp [strOfNums,ByteArray.empty,ByteArray.emptyWithCapacity]
   rfl
theorem Kd.C_string {P:Program} {w:World} {src dst e:TypeId} {A:Option Addr} {n c:Nat} {xs:List Int} (hs:P.underlying src = some (.slice e)) (he:P.underlying e = some (.int .u8)) (hd:P.underlying dst = some .string)
 (h:(Kd.int .u8).C w A n xs):(convert src dst (.slice A n c)).run P w = .ok (.string (strOfNums xs)) w :=
 string_of_reads hs he hd (Kd.reads_of_C (enc:=Value.int .u8) (d:=(0:Int)) (h1:=fun _ => rfl) h)
theorem u1n {w W:World} (h:Below w.heap.size w W):w.heap.size ≤ W.heap.size:=h.size
theorem u1i {w W w2:World} (h:Below w.heap.size w W) (k:Below W.heap.size W w2):Below w.heap.size w w2:=u1k h h.size k
theorem ReadsInt.nil (W:World) (k:IntKind):ReadsInt W k none ([]:List Int).length []:=⟨rfl,by simp,fun h => absurd h (Nat.lt_irrefl 0)⟩
theorem ReadsInt.drewN {W:World} {k:IntKind} {A:Option Addr} {n:Nat} {xs:List Int} (h:ReadsInt W k A n xs) (m:Nat):ReadsInt (W.drewN m) k A n xs:=h
theorem u1s {w W:World} {g j:Nat} {v:Value} (h:Below w.heap.size w W) (hg:w.heap.size ≤ g):Below w.heap.size w (W.setCell ⟨g,j,none⟩ v):=h.setCell hg _
theorem keep_drewN {w W:World} {g:Nat} {row:Option Nat} (h:uz w W g row) (m:Nat):uz w (W.drewN m) g row:=h
theorem keep_alloc {w W:World} {g:Nat} (h:uz w W g none) (o:Obj):uz w (W.alloc o) g none:=h.trans (uz.of_grown (World.grownBy_alloc W o none) g) (.inl rfl)
theorem keep_cell {w W:World} {g:Nat} (h:uz w W g none) {a:Addr} {v:Value} (hc:w.cell? a = some v) (hne:a.block ≠ g):W.cell? a = some v:=by
 have:=h.2 a.block (World.block_lt_of_cell? w a hc) hne (by simp)
 simpa [World.cell?,this] using hc
theorem add_block (a:Addr) (i:Nat):(a.add i).block = a.block:=by unfold Addr.add;split <;> rfl
theorem below_weaken {w0 w w1:World} {B:Nat} (h:Below w0.heap.size w0 w) (hB:w0.heap.size ≤ B) (k:Below B w w1):Below w0.heap.size w0 w1 :=
 h.trans ⟨k.os,k.tape,k.output,k.size,fun i hi => k.block i (Nat.lt_of_lt_of_le hi hB)⟩
theorem ReadsOf.nil {α:Type} (enc:α → Value) (d:α) (W:World):ReadsOf enc d W none ([]:List α).length []:=⟨rfl,by simp,fun h => absurd h (Nat.lt_irrefl 0)⟩
theorem ReadsOf.drewN {α:Type} {enc:α → Value} {d:α} {W:World} {A:Option Addr} {n:Nat} {xs:List α} (h:ReadsOf enc d W A n xs) (m:Nat):ReadsOf enc d (W.drewN m) A n xs:=h
theorem ReadsInt.keep {w W:World} {k:IntKind} {A:Option Addr} {n g:Nat} {xs:List Int} (h:ReadsInt w k A n xs) (hk:uz w W g none) (hf:∀ ad,A = some ad → 0 < n → ad.block ≠ g):ReadsInt W k A n xs :=
 ⟨h.1,h.2.1,fun hn => by
   obtain ⟨ad,e,hc⟩:=h.2.2 hn
   exact ⟨ad,e,fun j hj => keep_cell hk (hc j hj) (by rw [add_block];exact hf ad e hn)⟩⟩
theorem ReadsOf.keep {α:Type} {enc:α → Value} {d:α} {w W:World} {A:Option Addr} {n g:Nat} {xs:List α} (h:ReadsOf enc d w A n xs) (hk:uz w W g none) (hf:∀ ad,A = some ad → 0 < n → ad.block ≠ g):ReadsOf enc d W A n xs :=
 ⟨h.1,h.2.1,fun hn => by
   obtain ⟨ad,e,hc⟩:=h.2.2 hn
   exact ⟨ad,e,fun j hj => keep_cell hk (hc j hj) (by rw [add_block];exact hf ad e hn)⟩⟩
theorem blk_put {w:World} {g:Nat} {t:TypeId} {cs cs':Array Value} (h:w.heap[g]? = some (.cells cs t (0,0))) (i:Nat) (u:Value) (e:cs.setIfInBounds i u = cs'):(w.setCell ⟨g,i,none⟩ u).heap[g]? = some (.cells cs' t (0,0)):=e ▸ blk_set h i u
theorem ul {base:Nat} {w W:World} (h:Below base w W):Below base w W.drew:=h.drew
namespace Kd
section
variable {α β:Type} {d:Kd α} {d':Kd β} {e e' base base' n:Nat} {ok ok':Nat → Prop} {w W w1 W1:World} {v u:Value} {xs:List α} {ys:List β} {A:Option Addr} {c:Nat}
end
section
variable {α:Type} {enc:α → Value} {h1:∀ x,(enc x).oneCell' = true} {w W:World} {A:Option Addr} {n g:Nat} {xs:List α}
end
end Kd
namespace Kd
section
variable {α:Type} {d:Kd α} {e base g:Nat} {ok:Nat → Prop} {w w1:World} {v:Value} {xs:List α} {o:Obj}
end
end Kd
section
variable {P:Program} {ops:Array Oper} {rest:List Oper} {o:Oper} {a:Act} {Q:Exit → Act → World → Prop}
theorem box_event {W:World} (hgd:o.guard = none) {N:Tmp} (_hd:o.dst = some N) {cs:Array Value} {t:TypeId}
 (hrun:(execOp a.eval o).run P W = .ok (.value (.pointer (some ⟨W.heap.size,0,none⟩))) (W.alloc (.cells cs t (0,0))))
 (h:∀ g,g = W.heap.size → ∀ w1,w1.heap[g]? = some (.cells cs t (0,0)) → Below W.heap.size W w1 → wpList P ops Q rest (a.put o.dst (.pointer (some ⟨g,0,none⟩))) w1):wpList P ops Q (o :: rest) a W :=
 Kd.event_run hgd hrun (h _ rfl _ (blk_new W _) (uf (Below.refl _ _) _))
end
namespace Kd
section
variable {α:Type} {enc:α → Value} {h1:∀ x,(enc x).oneCell' = true} {e base g n cap:Nat} {ok:Nat → Prop} {W:World} {xs:List α}
end
end Kd
section
variable {P:Program} {ops:Array Oper} {rest:List Oper} {o:Oper} {a:Act} {Q:Exit → Act → World → Prop}
end
namespace Kd
section
variable {α:Type} {enc:α → Value} {h1:∀ x,(enc x).oneCell' = true} {e base g n cap:Nat} {ok:Nat → Prop} {W:World} {xs:List α}
end
end Kd
section
variable {P:Program} {ops:Array Oper} {rest:List Oper} {o:Oper} {a:Act} {Q:Exit → Act → World → Prop} {W:World}
theorem gate_dst {N:Tmp} (_hN:o.dst = some N) (h:wpList P ops Q (o :: rest) a W):wpList P ops Q (o :: rest) a W:=h
end
section
variable {P:Program} {ops:Array Oper} {o:Oper} {a:Act} {Q:Exit → Act → World → Prop} {Kc:Act → World → Prop}
namespace Kd
variable {α:Type}
end Kd
end
section
variable {P:Program} {tmps:Array Value} {w:World}
end
namespace Kd
section
variable {P:Program} {α:Type}
end
section
variable {P:Program} {ops:Array Oper} {rest:List Oper} {o:Oper} {a:Act} {Q:Exit → Act → World → Prop} {Kc:Act → World → Prop} {α:Type}
end
end Kd
end Go.Proofs.YtmcpeifhapekoaaDoorW.PrintWords
namespace Go.Proofs.YtmcpeifhapekoaaDoor.Base
open Go.Proofs.YtmcpeifhapekoaaDoorW.PrintWords
def runesFrom (s:ByteArray):Nat → Nat → List Int
 | 0,_ => []
 | f + 1,pos => if pos < s.size then ((Utf8.decode s pos).1:Int) :: runesFrom s f (pos + (Utf8.decode s pos).2) else []
def runesOf (s:ByteArray):List Int:=runesFrom s s.size 0
theorem width_pos (s:ByteArray) (pos:Nat) (h:pos < s.size):1 ≤ (Utf8.decode s pos).2:=by
 by_cases ha:(s[pos]'h).toNat < 128
 · rw [decode_ascii s pos h ha]
   exact Nat.le_refl _
 · exact (decode_high s pos h (by omega)).2
theorem runesFrom_end (s:ByteArray) (f pos:Nat) (h:¬ pos < s.size):runesFrom s f pos = []:=by
 cases f with
 | zero => rfl
 | succ f => simp [runesFrom,h]
theorem runesFrom_step (s:ByteArray) (f pos:Nat) (h:pos < s.size) :
 runesFrom s (f + 1) pos = ((Utf8.decode s pos).1:Int) :: runesFrom s f (pos + (Utf8.decode s pos).2):=by
 simp [runesFrom,h]
theorem toList_nil (s:ByteArray):s.toList = [] ↔ s.size = 0:=by
 have h:s.toList.length = s.size:=by rw [ByteArray.toList_eq];simp
 constructor
 · intro e
   rw [e] at h
   simpa using h.symm
 · intro e
   exact List.eq_nil_of_length_eq_zero (by omega)
theorem size1 (c:UInt8):(⟨#[c]⟩:ByteArray).size = 1:=rfl
def letterB (c:Int):Bool:=decide (c = 95) || (decide (97 ≤ Go.bits .or .u8 c 32) && decide (Go.bits .or .u8 c 32 ≤ 122))
def digitB (c:Int):Bool:=decide (48 ≤ c) && decide (c ≤ 57)
def plainB (r:Int):Bool:=decide (32 ≤ r) && !decide (r = 127) && !decide (r = 65533)
def nameB (s:ByteArray):Bool:=decide (0 < s.size) && decide (s.size ≤ 24) && letterB ((bytesOf s).headD 0) && (bytesOf s).all (fun c => letterB c || digitB c)
def valueB (s:ByteArray):Bool:=(runesOf s).all plainB && decide (0 < s.size) && decide (s.size ≤ 40)
def quoteByte (c:UInt8):List UInt8:=if c = 34 ∨ c = 92 then [92,c] else [c]
def quoteL (l:List UInt8):List UInt8:=34 :: (l.flatMap quoteByte ++ [34])
def ofL (l:List UInt8):ByteArray:=⟨l.toArray⟩
theorem ofL_data (l:List UInt8):(ofL l).data.toList = l:=by simp [ofL]
theorem ofL_of (s:ByteArray):ofL s.data.toList = s:=by
 cases s with
 | mk d => simp [ofL]
theorem ext_data {a b:ByteArray} (h:a.data.toList = b.data.toList):a = b:=by
 rw [← ofL_of a,← ofL_of b,h]
theorem extract_list (s:ByteArray) (i j:Nat):(s.extract i j).data.toList = (s.data.toList.drop i).take (j - i):=by
 rw [Lib.extract_data]
theorem extract_rest (s:ByteArray) (i:Nat):(s.extract i s.size).data.toList = s.data.toList.drop i:=by
 rw [extract_list]
 exact List.take_of_length_le (by rw [List.length_drop,u1q];exact Nat.le_refl _)
def unqL:List UInt8 → List UInt8 → Option (List UInt8 × List UInt8)
 | [],_ => none
 | c :: r,acc =>
   if c = 34 then some (acc,r)
   else if c = 92 then
    match r with
    | [] => none
    | d :: q => if d = 34 ∨ d = 92 then unqL q (acc ++ [d]) else none
   else unqL r (acc ++ [c])
theorem unqL_end (r acc:List UInt8):unqL (34 :: r) acc = some (acc,r):=by
 unfold unqL
 rw [if_pos rfl]
theorem unqL_esc (d:UInt8) (q acc:List UInt8) (h:d = 34 ∨ d = 92):unqL (92 :: d :: q) acc = unqL q (acc ++ [d]):=by
 conv => lhs;unfold unqL
 rw [if_neg (by decide),if_pos rfl]
 simp only
 rw [if_pos h]
theorem unqL_bad (d:UInt8) (q acc:List UInt8) (h:¬ (d = 34 ∨ d = 92)):unqL (92 :: d :: q) acc = none:=by
 conv => lhs;unfold unqL
 rw [if_neg (by decide),if_pos rfl]
 simp only
 rw [if_neg h]
theorem unqL_open (acc:List UInt8):unqL [92] acc = none:=by
 unfold unqL
 rw [if_neg (by decide),if_pos rfl]
theorem unqL_plain (c:UInt8) (r acc:List UInt8) (h1:¬ c = 34) (h2:¬ c = 92):unqL (c :: r) acc = unqL r (acc ++ [c]):=by
 conv => lhs;unfold unqL
 rw [if_neg h1,if_neg h2]
theorem unqL_nil (acc:List UInt8):unqL [] acc = none:=by unfold unqL;rfl
def unq (s:ByteArray):ByteArray × ByteArray × Int :=
 match s.data.toList with
 | [] => (⟨#[]⟩,⟨#[]⟩,5)
 | c :: r => if c = 34 then (match unqL r [] with
   | some (a,q) => (ofL a,ofL q,0)
   | none => (⟨#[]⟩,⟨#[]⟩,5)) else (⟨#[]⟩,⟨#[]⟩,5)
theorem less_irrefl:∀ a:List UInt8,Op.bytesLess a a = false
 | [] => by simp [Op.bytesLess]
 | x :: r => by simp [Op.bytesLess,less_irrefl r]
theorem less_or:∀ a b:List UInt8,(Op.bytesLess a b || a == b) = !(Op.bytesLess b a)
 | [],[] => by simp [Op.bytesLess]
 | [],_ :: _ => by simp [Op.bytesLess]
 | _ :: _,[] => by simp [Op.bytesLess]
 | x :: r,y :: q => by
   have ih:=less_or r q
   by_cases h1:x < y
   · have h2:¬ y < x:=fun h => absurd (UInt8.lt_trans h1 h) (UInt8.lt_irrefl _)
     have h3:¬ x = y:=fun h => by subst h;exact UInt8.lt_irrefl _ h1
     have h4:¬ y = x:=fun h => h3 h.symm
     simp [Op.bytesLess,h1,h2,h4]
   · by_cases h2:y < x
     · have h3:¬ x = y:=fun h => by subst h;exact UInt8.lt_irrefl _ h2
       simp [Op.bytesLess,h1,h2,h3]
     · have h3:x = y:=UInt8.le_antisymm (UInt8.not_lt.1 h2) (UInt8.not_lt.1 h1)
       subst h3
       simp only [Op.bytesLess,UInt8.lt_irrefl,decide_false,Bool.false_or,beq_self_eq_true,Bool.true_and]
       rw [← ih]
       simp
end Go.Proofs.YtmcpeifhapekoaaDoor.Base
namespace Go
@[go_sem] theorem seat_leq (t:TypeId) (a b:ByteArray):binOp .leq t (.string a) (.string b) = pure (.bool (!(Op.bytesLess b.toList a.toList))):=by
  rw [← Go.Proofs.YtmcpeifhapekoaaDoor.Base.less_or]
  simp [binOp,Op.stringOp]
@[go_sem] theorem seat_gtr (t:TypeId) (a b:ByteArray):binOp .gtr t (.string a) (.string b) = pure (.bool (Op.bytesLess b.toList a.toList)):=by
  have h:=Go.Proofs.YtmcpeifhapekoaaDoor.Base.less_or a.toList b.toList
  have h2:Op.bytesLess b.toList a.toList = !(Op.bytesLess a.toList b.toList || a.toList == b.toList):=by rw [h];simp
  rw [h2]
  simp [binOp,Op.stringOp]
@[go_sem] theorem seat_geq (t:TypeId) (a b:ByteArray):binOp .geq t (.string a) (.string b) = pure (.bool (!(Op.bytesLess a.toList b.toList))):=by
  simp [binOp,Op.stringOp]
end Go
namespace Go.Proofs.YtmcpeifhapekoaaDoor.Base
open Go.RowKit Go.Proofs.YtmcpeifhapekoaaDoorW.PrintWords
theorem wrap_nat (i:Nat) (h:i < 4611686018427387904):wrap64 ((i:Int) + 1) = ((i + 1:Nat):Int):=by
 unfold wrap64
 omega
theorem bt_list (s:ByteArray) (i:Nat) (h:i < s.size):bt s (i:Int) = ((s.data.toList.getD i 0).toNat:Int):=by
 have h1:=bt_at s (i:Int) (by simpa using h)
 rw [← h1]
 have h':i < s.data.toList.length:=by rw [u1q];exact h
 rw [List.getD_eq_getElem?_getD,List.getElem?_eq_getElem h']
 rfl
theorem append_data (a b:ByteArray):(a ++ b).data.toList = a.data.toList ++ b.data.toList:=by simp [ByteArray.data_append]
theorem size_list (s:ByteArray):s.size = s.data.toList.length:=(u1q s).symm
end Go.Proofs.YtmcpeifhapekoaaDoor.Base
namespace Go.Proofs.YtmcpeifhapekoaaDoorW.PrintLast
section
variable {P:Program} {ops:Array Oper} {Q:Exit → Act → World → Prop} {md:Region.Mode} {S:World → Prop} {ds:List Nat}
def Region.reachB (md:Region.Mode) (ops:Array Oper) (i:Nat):Nat → Nat → Bool
 | 0,_ => false
 | fuel + 1,d => match ops[d]? with
   | some o => o.after.any fun e => Region.binds md e && (e.on == i || Region.reachB md ops i fuel e.on)
   | none => false
def Region.lastB (md:Region.Mode) (ops:Array Oper) (listed:Array Bool) (ds:List Nat) (i:Nat):Bool :=
 ds.all fun d => listed.getD d true || Region.reachB md ops i ops.size d
def ListedClosed (md:Region.Mode) (ops:Array Oper) (listed:Array Bool):Prop :=
 ∀ j oj,ops[j]? = some oj → listed.getD j false = true → ∀ e ∈ oj.after,Region.binds md e = true → listed.getD e.on false = true
theorem ListedClosed.set {listed:Array Bool} {i:Nat} (h:ListedClosed md ops listed) (hi:i ∈ Region.ready md ops listed):ListedClosed md ops (listed.setIfInBounds i true):=by
 obtain ⟨_,oi,hoi,hall⟩:=mem_ready.1 hi
 intro j oj hj hl e he hb
 by_cases hij:i = j
 · subst hij
   have:oj = oi:=Option.some.inj (hj.symm.trans hoi)
   subst this
   exact getD_set_true (hall e he hb)
 · rw [getD_set_ne false hij] at hl
   exact getD_set_true (h j oj hj hl e he hb)
def u2h (P:Program) (md:Region.Mode) (ops:Array Oper) (Q:Exit → Act → World → Prop) (S:World → Prop) (ds:List Nat):Nat → Array Bool → Act → World → Prop
 | 0,listed,a,w => Region.ready md ops listed = [] ∧ Q .normal a w
 | fuel + 1,listed,a,w =>
   (Region.ready md ops listed = [] → Q .normal a w) ∧
   ∀ i ∈ Region.ready md ops listed,wpOp P ops Q i (fun a' w' => (i ∉ ds → S w → S w') ∧ u2h P md ops Q S ds fuel (listed.setIfInBounds i true) a' w') a w
theorem wpAnyLast_all {rs:List Nat} {fuel:Nat} {listed:Array Bool} {a:Act} {w:World} (hr:Region.ready md ops listed = rs) (hne:rs ≠ [])
 (h:∀ i ∈ rs,wpOp P ops Q i (fun a' w' => (i ∉ ds → S w → S w') ∧ u2h P md ops Q S ds fuel (listed.setIfInBounds i true) a' w') a w):u2h P md ops Q S ds (fuel + 1) listed a w :=
 ⟨fun h0 => absurd (hr ▸ h0) hne,hr ▸ h⟩
end
section
variable {P:Program} {ops:Array Oper} {Q:Exit → Act → World → Prop} {md:Region.Mode} {S:World → Prop} {ds:List Nat}
def AllReadyL (P:Program) (md:Region.Mode) (ops:Array Oper) (Q:Exit → Act → World → Prop) (S:World → Prop) (ds:List Nat) (fuel:Nat) (listed:Array Bool) (a:Act) (w:World) (rs:List Nat):Prop :=
 ∀ i ∈ rs,wpOp P ops Q i (fun a' w' => (i ∉ ds → S w → S w') ∧ u2h P md ops Q S ds fuel (listed.setIfInBounds i true) a' w') a w
theorem AllReadyL.nil {fuel:Nat} {listed:Array Bool} {a:Act} {w:World}:AllReadyL P md ops Q S ds fuel listed a w []:=fun _ h => by cases h
theorem AllReadyL.cons {fuel:Nat} {listed:Array Bool} {a:Act} {w:World} {i:Nat} {o:Oper} {rs:List Nat} (ho:ops[i]? = some o) (hd:i ∉ ds)
 (h:∀ K':Act → World → Prop,Shut (∀ a w,S w → (S w → u2h P md ops Q S ds fuel (listed.setIfInBounds i true) a w) → K' a w) → if Region.wanted o (yielded ops a.tmps) = true then Oper.wp P o a w K' Q else K' (a.put o.dst undef) w)
 (hs:AllReadyL P md ops Q S ds fuel listed a w rs):AllReadyL P md ops Q S ds fuel listed a w (i :: rs):=fun j hj => by
 rcases List.mem_cons.1 hj with rfl | hj
 · exact wpOp_step ho (fun K' hK => h K' (fun a w hS hW => hK a w ⟨fun _ _ => hS,hW hS⟩))
 · exact hs j hj
theorem wpAnyLast_ready {rs:List Nat} {fuel:Nat} {listed:Array Bool} {a:Act} {w:World} (hr:Region.ready md ops listed = rs) (hne:rs ≠ [])
 (h:AllReadyL P md ops Q S ds fuel listed a w rs):u2h P md ops Q S ds (fuel + 1) listed a w:=wpAnyLast_all hr hne h
def readyB (md:Region.Mode) (ops:Array Oper) (l l':Array Bool) (i:Nat):Bool:=(Region.ready md ops l == [i]) && (l.setIfInBounds i true == l')
theorem one_ {i:Nat} {N:Option Tmp} {oi:Oper} {fuel:Nat} {l:Array Bool} {a:Act} {w:World} (l':Array Bool) (hi:ops[i]? = some oi) (hN:oi.dst = N) (hc:readyB md ops l l' i = true) (hd:i ∉ ds)
 (h:∀ K:Act → World → Prop,Shut (∀ a' w',S w' → (S w' → u2h P md ops Q S ds fuel l' a' w') → K a' w') → if Region.wanted oi (yielded ops a.tmps) = true then Oper.wp P oi a w K Q else K (a.put N undef) w) :
 u2h P md ops Q S ds (fuel + 1) l a w:=by
 subst hN
 simp only [readyB,Bool.and_eq_true,beq_iff_eq] at hc
 obtain ⟨h1,h2⟩:=hc
 subst h2
 exact wpAnyLast_ready h1 (by simp) (AllReadyL.cons hi hd (fun K hK => h K hK) AllReadyL.nil)
theorem two_ {i j:Nat} {Ni Nj:Option Tmp} {oi oj:Oper} {fuel:Nat} {l:Array Bool} {a:Act} {w:World} (li lj:Array Bool) (hi:ops[i]? = some oi) (hj:ops[j]? = some oj) (hNi:oi.dst = Ni) (hNj:oj.dst = Nj)
 (hc:(Region.ready md ops l == [i,j] && l.setIfInBounds i true == li && l.setIfInBounds j true == lj) = true) (hdi:i ∉ ds) (hdj:j ∉ ds)
 (h1:∀ K:Act → World → Prop,Shut (∀ a' w',S w' → (S w' → u2h P md ops Q S ds fuel li a' w') → K a' w') → if Region.wanted oi (yielded ops a.tmps) = true then Oper.wp P oi a w K Q else K (a.put Ni undef) w)
 (h2:∀ K:Act → World → Prop,Shut (∀ a' w',S w' → (S w' → u2h P md ops Q S ds fuel lj a' w') → K a' w') → if Region.wanted oj (yielded ops a.tmps) = true then Oper.wp P oj a w K Q else K (a.put Nj undef) w) :
 u2h P md ops Q S ds (fuel + 1) l a w:=by
 subst hNi
 subst hNj
 simp only [Bool.and_eq_true,beq_iff_eq] at hc
 obtain ⟨⟨h3,h4⟩,h5⟩:=hc
 subst h4
 subst h5
 exact wpAnyLast_ready h3 (by simp) (AllReadyL.cons hi hdi (fun K hK => h1 K hK) (AllReadyL.cons hj hdj (fun K hK => h2 K hK) AllReadyL.nil))
theorem three_ {i j k:Nat} {Ni Nj Nk:Option Tmp} {oi oj ok:Oper} {fuel:Nat} {l:Array Bool} {a:Act} {w:World} (li lj lk:Array Bool) (hi:ops[i]? = some oi) (hj:ops[j]? = some oj) (hk:ops[k]? = some ok) (hNi:oi.dst = Ni) (hNj:oj.dst = Nj) (hNk:ok.dst = Nk)
 (hc:(Region.ready md ops l == [i,j,k] && l.setIfInBounds i true == li && l.setIfInBounds j true == lj && l.setIfInBounds k true == lk) = true) (hdi:i ∉ ds) (hdj:j ∉ ds) (hdk:k ∉ ds)
 (h1:∀ K:Act → World → Prop,Shut (∀ a' w',S w' → (S w' → u2h P md ops Q S ds fuel li a' w') → K a' w') → if Region.wanted oi (yielded ops a.tmps) = true then Oper.wp P oi a w K Q else K (a.put Ni undef) w)
 (h2:∀ K:Act → World → Prop,Shut (∀ a' w',S w' → (S w' → u2h P md ops Q S ds fuel lj a' w') → K a' w') → if Region.wanted oj (yielded ops a.tmps) = true then Oper.wp P oj a w K Q else K (a.put Nj undef) w)
 (h3:∀ K:Act → World → Prop,Shut (∀ a' w',S w' → (S w' → u2h P md ops Q S ds fuel lk a' w') → K a' w') → if Region.wanted ok (yielded ops a.tmps) = true then Oper.wp P ok a w K Q else K (a.put Nk undef) w) :
 u2h P md ops Q S ds (fuel + 1) l a w:=by
 subst hNi
 subst hNj
 subst hNk
 simp only [Bool.and_eq_true,beq_iff_eq] at hc
 obtain ⟨⟨⟨h4,h5⟩,h6⟩,h7⟩:=hc
 subst h5
 subst h6
 subst h7
 exact wpAnyLast_ready h4 (by simp) (AllReadyL.cons hi hdi (fun K hK => h1 K hK) (AllReadyL.cons hj hdj (fun K hK => h2 K hK) (AllReadyL.cons hk hdk (fun K hK => h3 K hK) AllReadyL.nil)))
def putAll:Act → List (Tmp × Value) → Act
 | a,[] => a
 | a,(n,v) :: r => putAll (a.put (some n) v) r
theorem join_ {σ:Type} {fuel:Nat} {l:Array Bool} {a:Act} {w:World} (fuel':Nat) (l':Array Bool) (ns:σ → List (Tmp × Value)) (F:σ → World → Prop)
 (hcont:∀ s w',F s w' → u2h P md ops Q S ds fuel' l' (putAll a (ns s)) w')
 (h:(∀ s w',F s w' → u2h P md ops Q S ds fuel' l' (putAll a (ns s)) w') → u2h P md ops Q S ds fuel l a w):u2h P md ops Q S ds fuel l a w:=h hcont
theorem enters_ {f:FuncId} {fn:Func} (hf:P.funcs[f]? = some fn) (hname:(fn.name == "runtime.NumGoroutine") = false) (hb:fn.body.isSome = true) (args:Array Value) (w:World):(callFunc f args).run P w = .ok (.enter f args) w:=by
 have h1:fn.name ≠ "runtime.NumGoroutine" := by simpa using hname
 obtain ⟨c,hc⟩:=Option.isSome_iff_exists.1 hb
 simp [callFunc,hf,h1,hc]
theorem goesL_ {rest:List Oper} {oi:Oper} {a:Act} {w:World} (N:Option Tmp) (hd:oi.dst = N) (hg:oi.guard = none) {f:FuncId} {fn:Func} {as_:Array Operand} {ts:Array TypeId} (hf:P.funcs[f]? = some fn) (hname:(fn.name == "runtime.NumGoroutine") = false) (hb:fn.body.isSome = true) (args:Array Value)
 (hop:oi.op = .call { callee:=.value (.func f),args:=as_,argTypes:=ts }) (hargs:as_.map a.eval = args)
 (h:Calls P f args w fun e w' => ∃ v,e = .returned v ∧ wpList P ops Q rest (a.put N v) w'):wpList P ops Q (oi :: rest) a w:=by
 refine wpList_plain hg fun K hK => ?_
 have he:=enters_ hf hname hb args w
 have hrun:(execOp a.eval oi).run P w = .ok (.enter f args) w:=by
  unfold execOp
  simp [hop,resolve,Deferred.ofValue,invoke,Act.eval,hargs,he]
 unfold Oper.wp
 rw [hrun,Oper.upon_enter]
 refine h.mono fun e w'' hh => ?_
 obtain ⟨v,rfl,hk⟩:=hh
 subst hd
 exact hK _ _ hk
theorem i64_w (n:Int):IntKind.i64.wrap n = Go.RowKit.wrap64 n:=by unfold Go.RowKit.wrap64;exact IntKind.wrap_i64 n
theorem i32_w (n:Int):IntKind.i32.wrap n = Go.RowKit.wrap32 n:=by unfold Go.RowKit.wrap32;exact IntKind.wrap_i32 n
end
end Go.Proofs.YtmcpeifhapekoaaDoorW.PrintLast
-- PRINTED BY print.sh 35421559b90ae4d0a3588c463048766b98c2df88dd9212a6774a882060cdf62d: not written by this session
namespace Go.Proofs.YtmcpeifhapekoaaDoorW.PrintLast
open Go.Proofs.YtmcpeifhapekoaaDoorW.PrintWords (Aside0)
section
variable {md:Region.Mode} {ops:Array Oper} {T:Bool × List (List Nat × List Nat)} {l l' li lj lk:Array Bool} {ds:List Nat} {i j k:Nat}
end
end Go.Proofs.YtmcpeifhapekoaaDoorW.PrintLast
-- PRINTED BY print.sh 35421559b90ae4d0a3588c463048766b98c2df88dd9212a6774a882060cdf62d: not written by this session
namespace Go.Proofs.YtmcpeifhapekoaaDoorW.PrintLast
section
variable {P:Program} {ops:Array Oper} {Q:Exit → Act → World → Prop} {md:Region.Mode} {S:World → Prop} {ds:List Nat} {T:Bool × List (List Nat × List Nat)}
end
end Go.Proofs.YtmcpeifhapekoaaDoorW.PrintLast
-- PRINTED BY print.sh 35421559b90ae4d0a3588c463048766b98c2df88dd9212a6774a882060cdf62d: not written by this session
namespace Go.Proofs.YtmcpeifhapekoaaDoorW.PrintWords
open Go.RowKit
namespace Kd
section
variable {α:Type} {d:Kd α} {e base g o n cap:Nat} {ok okp:Nat → Prop} {w W:World} {v:Value} {xs:List α}
theorem Q_form (h:d.Q e w base ok v xs) (hp:0 < xs.length):∃ g o cap,v = .slice (some ⟨g,o,none⟩) xs.length cap ∧ base ≤ g ∧ g < w.heap.size ∧ ∃ cells,w.heap[g]? = some (.cells cells e (0,0)):=by
 obtain ⟨h0,inner,hq,hr⟩:=h
 rcases hq.2 with ⟨h1,_⟩ | ⟨g,off,cap,cur,rfl,hb,hh,r⟩
 · omega
 · exact ⟨g,off * d.sz,cap,rfl,hb,blk_lt hh,cur,hh⟩
theorem Q_elem (h:d.Q e W base ok (.slice (some ⟨g,o,none⟩) n cap) xs) (z:α) (i:Int) (h0:0 ≤ i) (h1:i < n) :
 ∃ c,c.length = d.sz ∧ d.M W base (fun k => ok k ∧ k ≠ g) (xs.getD i.toNat z) c ∧ (∀ j u,c[j]? = some u → W.cell? ⟨g,o + i.toNat * d.sz + j,none⟩ = some u) ∧ ∀ j,W.frozen? ⟨g,o + i.toNat * d.sz + j,none⟩ = false:=by
 obtain ⟨hn,hnc,hC⟩:=Q_reads' h
 obtain ⟨_,inner,ho,hr⟩:=h
 have hil:i.toNat < xs.length:=by omega
 have hseg:i.toNat * d.sz + d.sz ≤ inner.length:=by rw [hr.1,← Nat.succ_mul];exact Nat.mul_le_mul_right _ hil
 have hM:=hr.2 i.toNat _ (List.getElem?_eq_getElem hil)
 refine ⟨(inner.drop (i.toNat * d.sz)).take d.sz,by rw [List.length_take,List.length_drop];omega,?_,fun j u hu => ?_,fun j => ?_⟩
 · rw [List.getD_eq_getElem?_getD,List.getElem?_eq_getElem hil]
   exact d.M_mono (fun k hk => ⟨hk.1,fun he => hk.2 (by rw [he];simp [Value.ownBlock])⟩) hM
 · rw [List.getElem?_take] at hu
   split at hu
   · rw [List.getElem?_drop] at hu
     subst hn
     obtain ⟨ad,he,hc⟩:=q_cells ho (by omega)
     injection he with he
     subst he
     have:=hc _ u hu
     rwa [add_at,← Nat.add_assoc] at this
   · cases hu
 · obtain ⟨_,cells,hc⟩:=q_typed ho g (by simp [Value.ownBlock])
   exact u1a hc _
theorem Q_seg (h:d.Q e W base ok (.slice (some ⟨g,o,none⟩) n cap) xs) (i:Int) (h0:0 ≤ i) (h1:i < n) {c seg:List Value} {j:Nat} (hcl:c.length = d.sz) (hcc:∀ j u,c[j]? = some u → W.cell? ⟨g,o + i.toNat * d.sz + j,none⟩ = some u)
 (hj:j + seg.length ≤ d.sz) {x':α} (hM:d.M W base okp x' (c.take j ++ seg ++ c.drop (j + seg.length))) (hokp:∀ k,okp k → ok k ∧ k ≠ g) :
 d.Q e (W.setCells g (o + i.toNat * d.sz + j) seg) base ok (.slice (some ⟨g,o,none⟩) n cap) (xs.set i.toNat x') ∧ W.grownBy (W.setCells g (o + i.toNat * d.sz + j) seg) (some g):=by
 obtain ⟨hn,hnc,_⟩:=Q_reads' h
 obtain ⟨hok,inner,ho,hr⟩:=h
 have hil:i.toNat < xs.length:=by omega
 have hseg:i.toNat * d.sz + d.sz ≤ inner.length:=by rw [hr.1,← Nat.succ_mul];exact Nat.mul_le_mul_right _ hil
 have hin:inner.length = n * d.sz:=by rw [hr.1,hn]
 obtain ⟨ho1,ho2⟩:=ho
 rcases ho2 with ⟨hz,_⟩ | ⟨g',off,cap',cur,hv,hb,hh,hnc',hcm,hcs,ht⟩
 · omega
 injection hv with ha _ hc
 injection ha with ha
 injection ha with hg hoff
 subst hg;subst hc;subst hoff
 have hcap:n * d.sz ≤ cap * d.sz:=Nat.mul_le_mul_right _ hnc
 have hcs':cur.size = off * d.sz + cap * d.sz:=by rw [hcs,Nat.add_mul]
 have hfit:off * d.sz + i.toNat * d.sz + j + seg.length ≤ cur.size:=by omega
 obtain ⟨cur',h3,h4,h5⟩:=setCells_row seg (off * d.sz + i.toNat * d.sz + j) W cur hh hfit
 obtain ⟨s1,s2,s3,s4⟩:=setCells_same g seg (off * d.sz + i.toNat * d.sz + j) W
 have hfar:∀ k,k ≠ g → (W.setCells g (off * d.sz + i.toNat * d.sz + j) seg).heap[k]? = W.heap[k]? := fun k hk => setCells_far seg _ k hk
 rw [← hn] at ht
 -- the row's cells are the block's from off on
 have hat:∀ q,q < n * d.sz → cur.toList[off * d.sz + q]? = inner[q]? := by
  intro q hq
  rw [← ht,List.getElem?_take,if_pos hq,List.getElem?_drop]
 have hcin:∀ q,q < d.sz → c[q]? = inner[i.toNat * d.sz + q]? := by
  intro q hq
  have hq':q < c.length:=by omega
  have h6:=hcc q _ (List.getElem?_eq_getElem hq')
  rw [cell_of_row W g _ cur e (0,0) hh] at h6
  rw [List.getElem?_eq_getElem hq',← h6,← hat _ (by omega),Array.getElem?_toList,Nat.add_assoc]
 refine ⟨⟨hok,inner.take (i.toNat * d.sz + j) ++ seg ++ inner.drop (i.toNat * d.sz + j + seg.length),⟨?_,.inr ⟨g,off,cap,cur',by rw [List.length_set,hn],hb,h3,by rw [List.length_set,← hn];exact hnc,hcm,by rw [h4,hcs],?_⟩⟩,?_⟩,
  ⟨s1,s2,s3,by rw [s4];exact Nat.le_refl _,fun k _ hk => hfar k (fun he => hk (by rw [he]))⟩⟩
 · rw [List.length_set]
   simp only [List.length_append,List.length_take,List.length_drop]
   rw [hr.1] at hseg ⊢
   omega
 · rw [List.length_set,← hn]
   apply List.ext_getElem?
   intro q
   rw [List.getElem?_take,List.getElem?_drop,h5]
   rw [seg_get cur.toList seg (off * d.sz + i.toNat * d.sz + j) (by rw [Array.length_toList];omega) (off * d.sz + q),seg_get inner seg (i.toNat * d.sz + j) (by omega) q]
   by_cases hq:q < n * d.sz
   · rw [if_pos hq]
     by_cases hq1:q < i.toNat * d.sz + j
     · rw [if_pos (by omega),if_pos hq1,hat q hq]
     · rw [if_neg (by omega),if_neg hq1]
       by_cases hq2:q < i.toNat * d.sz + j + seg.length
       · rw [if_pos (by omega),if_pos hq2]
         congr 1
         omega
       · rw [if_neg (by omega),if_neg hq2,hat q hq]
   · rw [if_neg hq,if_neg (by omega),if_neg (by omega),List.getElem?_eq_none (by omega)]
 · refine ⟨?_,fun m p hm => ?_⟩
   · rw [List.length_set]
     simp only [List.length_append,List.length_take,List.length_drop]
     rw [hr.1] at hseg ⊢
     omega
   · have hml:m < xs.length:=by
      have:=(List.getElem?_eq_some_iff.1 hm).1
      rwa [List.length_set] at this
     have hmfit:m * d.sz + d.sz ≤ inner.length:=by rw [hr.1,← Nat.succ_mul];exact Nat.mul_le_mul_right _ hml
     have hgo:some g = (Value.slice (some ⟨g,off * d.sz,none⟩) n cap).ownBlock:=by simp [Value.ownBlock]
     by_cases hmi:m = i.toNat
     · subst hmi
       rw [List.getElem?_set_self (by omega)] at hm
       injection hm with hm
       subst hm
       have hcells:((inner.take (i.toNat * d.sz + j) ++ seg ++ inner.drop (i.toNat * d.sz + j + seg.length)).drop (i.toNat * d.sz)).take d.sz = c.take j ++ seg ++ c.drop (j + seg.length):=by
        apply List.ext_getElem?
        intro q
        rw [List.getElem?_take,List.getElem?_drop,seg_get inner seg _ (by omega),seg_get c seg j (by omega) q]
        by_cases hq:q < d.sz
        · rw [if_pos hq,hcin q hq]
          by_cases hq1:q < j
          · rw [if_pos (by omega),if_pos hq1]
          · rw [if_neg (by omega),if_neg hq1]
            by_cases hq2:q < j + seg.length
            · rw [if_pos (by omega),if_pos hq2]
              congr 1
              omega
            · rw [if_neg (by omega),if_neg hq2]
        · rw [if_neg hq,if_neg (by omega),if_neg (by omega),List.getElem?_eq_none (by omega)]
       rw [hcells]
       refine d.M_mono (fun k hk => ?_) (d.M_move (w1:=W.setCells g (off * d.sz + i.toNat * d.sz + j) seg) (fun k hk => hfar k (hokp k hk).2) hM)
       exact ⟨(hokp k hk).1,fun he => (hokp k hk).2 (by rw [← hgo] at he;injection he)⟩
     · rw [List.getElem?_set_ne (by omega)] at hm
       have hold:=hr.2 m p hm
       have hcells:((inner.take (i.toNat * d.sz + j) ++ seg ++ inner.drop (i.toNat * d.sz + j + seg.length)).drop (m * d.sz)).take d.sz = (inner.drop (m * d.sz)).take d.sz:=by
        apply List.ext_getElem?
        intro q
        rw [List.getElem?_take,List.getElem?_take,List.getElem?_drop,List.getElem?_drop,seg_get inner seg _ (by omega)]
        by_cases hq:q < d.sz
        · rw [if_pos hq,if_pos hq]
          rcases Nat.lt_or_gt_of_ne hmi with hlt | hgt
          · have:m * d.sz + d.sz ≤ i.toNat * d.sz:=by rw [← Nat.succ_mul];exact Nat.mul_le_mul_right _ hlt
            rw [if_pos (by omega)]
          · have:i.toNat * d.sz + d.sz ≤ m * d.sz:=by rw [← Nat.succ_mul];exact Nat.mul_le_mul_right _ hgt
            rw [if_neg (by omega),if_neg (by omega)]
        · rw [if_neg hq,if_neg hq]
       rw [hcells]
       refine d.M_move (fun k hk => hfar k (fun he => hk.2 (by rw [he];exact hgo))) hold
end
section
variable {α:Type} {enc:α → Value} {h1:∀ x,(enc x).oneCell' = true} {e base g o n cap:Nat} {ok:Nat → Prop} {W:World} {xs:List α}
theorem Q_cell (d:α) (h:(scalar enc h1).Q e W base ok (.slice (some ⟨g,o,none⟩) n cap) xs) (i:Int) (h0:0 ≤ i) (hi:i < n):W.cell? ⟨g,o + i.toNat,none⟩ = some (enc (rdOf d xs i)) ∧ W.frozen? ⟨g,o + i.toNat,none⟩ = false:=by
 obtain ⟨c,_,hM,hcc,hf⟩:=Q_elem h d i h0 hi
 have hM':c = [enc (xs.getD i.toNat d)]:=hM
 subst hM'
 have h2:=hcc 0 _ rfl
 have h3:=hf 0
 rw [show (scalar enc h1).sz = 1 from rfl,Nat.mul_one,Nat.add_zero] at h2 h3
 exact ⟨h2,h3⟩
theorem Q_putg (h:(scalar enc h1).Q e W base ok (.slice (some ⟨g,o,none⟩) n cap) xs) (i:Int) (h0:0 ≤ i) (hi:i < n) (x:α):(scalar enc h1).Q e (W.setCell ⟨g,o + i.toNat,none⟩ (enc x)) base ok (.slice (some ⟨g,o,none⟩) n cap) (xs.set i.toNat x) ∧ W.grownBy (W.setCell ⟨g,o + i.toNat,none⟩ (enc x)) (some g):=by
 have hp:0 < xs.length:=by have:=(Q_reads' h).1;omega
 obtain ⟨c,hcl,_,hcc,_⟩:=Q_elem h (xs[0]'hp) i h0 hi
 have h2:=Q_seg h i h0 hi (c:=c) (seg:=[enc x]) (j:=0) (okp:=fun _ => False) (x':=x) hcl hcc (Nat.le_refl 1) (by
  have hl:c.length = 1:=hcl
  show c.take 0 ++ [enc x] ++ c.drop (0 + 1) = [enc x]
  rw [List.drop_eq_nil_of_le (by omega)]
  rfl) (fun _ hk => hk.elim)
 rw [show (scalar enc h1).sz = 1 from rfl,Nat.mul_one,Nat.add_zero] at h2
 exact h2
end
end Kd
end Go.Proofs.YtmcpeifhapekoaaDoorW.PrintWords
-- PRINTED BY print.sh 35421559b90ae4d0a3588c463048766b98c2df88dd9212a6774a882060cdf62d: not written by this session
namespace Go.Proofs.YtmcpeifhapekoaaDoorW.PrintWords
open Go.RowKit
namespace Kd
def tag {α:Type} (f:Nat → Nat) (d:Kd α):Kd (α × Nat) where
 sz:=d.sz
 E:=d.E
 K:=fun w x cs => d.K w x.1 cs
 M:=fun w base ok x cs => d.M w base (fun k => ok k ∧ f k = x.2) x.1 cs
 K_len:=fun h => d.K_len h
 K_one:=fun h => d.K_one h
 K_below:=fun hb h => d.K_below hb h
 K_of_M:=fun h => d.K_of_M h
 M_mono:=fun hok h => d.M_mono (fun k hk => ⟨hok k hk.1,hk.2⟩) h
 M_bound:=fun h => d.M_mono (fun _ hk => ⟨⟨hk.1.1,hk.2⟩,hk.1.2⟩) (d.M_bound h)
 M_move:=fun hm h => d.M_move (fun k hk => hm k hk.1) h
 M_lower:=fun hb h => d.M_lower hb h
def raw (sz:Nat):Kd (List Value) where
 sz:=sz
 E:=[]
 K:=fun _ x cs => cs = x ∧ cs.length = sz ∧ ∀ u ∈ cs,u.oneCell' = true
 M:=fun _ _ _ x cs => cs = x ∧ cs.length = sz ∧ ∀ u ∈ cs,u.oneCell' = true
 K_len:=fun h => h.2.1
 K_one:=fun h => h.2.2
 K_below:=fun _ h => h
 K_of_M:=fun h => h
 M_mono:=fun _ h => h
 M_bound:=fun h => h
 M_move:=fun _ h => h
 M_lower:=fun _ h => h
def S {α:Type} (d:Kd α) (e:Nat) (w:World) (base:Nat) (ok:Nat → Prop) (v:Value) (xs:List α):Prop:=∃ f,(tag f d).R e w base ok v xs.zipIdx
section
variable {α β:Type} {d:Kd α} {d':Kd β} {e e':Nat} {w w1 W:World} {base b:Nat} {ok ok' okv oku:Nat → Prop} {u v:Value} {xs:List α} {ys:List β}
theorem R_tight (hE:d.E = []) (h:d.R e w base ok v xs):d.R e w base (fun k => some k = v.ownBlock) v xs:=by
 obtain ⟨h0,inner,ho,hr⟩:=h
 refine ⟨fun k hk => hk.symm,inner,ho,hr.imp_ (fun p c hp => d.M_mono (fun k hk => ?_) (d.M_bound hp))⟩
 obtain ⟨_,_,_,q,hq,_⟩:=hk
 rw [hE] at hq
 cases hq
end
section
variable {α β:Type} {d:Kd α} {d':Kd β} {e e' g:Nat} {w w1 W:World} {base b:Nat} {ok ok' okv oku:Nat → Prop} {u v:Value} {xs:List α} {ys:List β}
end
section
variable {P:Program} {ops:Array Oper} {rest:List Oper} {o:Oper} {a:Act} {Q:Exit → Act → World → Prop} {Kc:Act → World → Prop} {α:Type}
end
def gap {α:Type} (f:Nat → Nat) (d:Kd α) (i:Nat) (c:List Value):Kd (α × Nat) where
 sz:=d.sz
 E:=d.E
 K:=fun w x cs => (x.2 = i → cs = c ∧ cs.length = d.sz ∧ ∀ u ∈ cs,u.oneCell' = true) ∧ (x.2 ≠ i → d.K w x.1 cs)
 M:=fun w base ok x cs => (x.2 = i → cs = c ∧ cs.length = d.sz ∧ ∀ u ∈ cs,u.oneCell' = true) ∧ (x.2 ≠ i → d.M w base (fun k => ok k ∧ f k = x.2) x.1 cs)
 K_len:=fun {w x cs} h => by
  by_cases hx:x.2 = i
  · exact (h.1 hx).2.1
  · exact d.K_len (h.2 hx)
 K_one:=fun {w x cs} h => by
  by_cases hx:x.2 = i
  · exact (h.1 hx).2.2
  · exact d.K_one (h.2 hx)
 K_below:=fun hb h => ⟨h.1,fun hx => d.K_below hb (h.2 hx)⟩
 K_of_M:=fun h => ⟨h.1,fun hx => d.K_of_M (h.2 hx)⟩
 M_mono:=fun hok h => ⟨h.1,fun hx => d.M_mono (fun k hk => ⟨hok k hk.1,hk.2⟩) (h.2 hx)⟩
 M_bound:=fun h => ⟨h.1,fun hx => d.M_mono (fun _ hk => ⟨⟨hk.1.1,hk.2⟩,hk.1.2⟩) (d.M_bound (h.2 hx))⟩
 M_move:=fun hm h => ⟨h.1,fun hx => d.M_move (fun k hk => hm k hk.1) (h.2 hx)⟩
 M_lower:=fun hb h => ⟨h.1,fun hx => d.M_lower hb (h.2 hx)⟩
def H {α:Type} (d:Kd α) (e:Nat) (w:World) (base:Nat) (ok:Nat → Prop) (v:Value) (xs:List α) (i:Int) (oki:Nat → Prop) (c:List Value):Prop :=
 (∀ k,oki k → ok k) ∧ ∃ f,(gap f d i.toNat c).R e w base (fun k => ok k ∧ ¬ oki k) v xs.zipIdx
section
variable {α β:Type} {d:Kd α} {e e' g n cap:Nat} {w w1 W:World} {base:Nat} {ok ok' oki okp:Nat → Prop} {u v:Value} {xs:List α} {i:Int} {c:List Value}
end
section
variable {P:Program} {ops:Array Oper} {rest:List Oper} {o:Oper} {a:Act} {Q:Exit → Act → World → Prop} {α:Type}
end
end Kd
end Go.Proofs.YtmcpeifhapekoaaDoorW.PrintWords
-- PRINTED BY print.sh 35421559b90ae4d0a3588c463048766b98c2df88dd9212a6774a882060cdf62d: not written by this session
namespace Go.Proofs.YtmcpeifhapekoaaDoorW.PrintWords
open Go.RowKit
namespace Kd
section
variable {α:Type} {n:Nat} {d:Kd α} {hs:0 < d.sz} {w:World} {base:Nat} {ok:Nat → Prop} {xs:List α} {cs:List Value}
end
section
variable {α:Type} {n:Nat} {enc:α → Value} {h1:∀ x,(enc x).oneCell' = true} {hs:0 < (scalar enc h1).sz} {w:World} {base:Nat} {ok:Nat → Prop} {xs:List α} {cs:List Value}
end
end Kd
end Go.Proofs.YtmcpeifhapekoaaDoorW.PrintWords
-- PRINTED BY print.sh 35421559b90ae4d0a3588c463048766b98c2df88dd9212a6774a882060cdf62d: not written by this session
namespace Go.Proofs.YtmcpeifhapekoaaDoorW.PrintWords
open Go.RowKit
section
variable {P:Program}
end
namespace Kd
section
variable {P:Program} {ops:Array Oper} {rest:List Oper} {o:Oper} {a:Act} {Q:Exit → Act → World → Prop} {Kc:Act → World → Prop} {α:Type}
end
section
variable {α:Type} {d:Kd α} {e:Nat} {w:World} {base:Nat} {ok:Nat → Prop} {v:Value} {xs:List α}
end
section
variable {P:Program} {ops:Array Oper} {rest:List Oper} {o:Oper} {a:Act} {Q:Exit → Act → World → Prop} {Kc:Act → World → Prop} {α:Type}
end
end Kd
end Go.Proofs.YtmcpeifhapekoaaDoorW.PrintWords
-- PRINTED BY print.sh 35421559b90ae4d0a3588c463048766b98c2df88dd9212a6774a882060cdf62d: not written by this session
namespace Go.Proofs.YtmcpeifhapekoaaDoorW.PrintWords
open Go.RowKit
namespace Kd
structure Heap {α:Type} (d:Kd α):Prop where
 K:∀ {w w1:World} {x:α} {cs:List Value},(∀ k,k < w.heap.size → w1.heap[k]? = w.heap[k]?) → d.K w x cs → d.K w1 x cs
theorem cell_heap {w w1:World} (hb:∀ k,k < w.heap.size → w1.heap[k]? = w.heap[k]?) {a:Addr} {v:Value} (h:w.cell? a = some v):w1.cell? a = some v:=by
 have:=hb a.block (World.block_lt_of_cell? w a h)
 simpa [World.cell?,this] using h
theorem Heap.C {α:Type} {d:Kd α} (hd:Heap d) {w w1:World} {A:Option Addr} {n:Nat} {xs:List α} (hb:∀ k,k < w.heap.size → w1.heap[k]? = w.heap[k]?) (h:d.C w A n xs):d.C w1 A n xs :=
 ⟨h.1,h.2.1,fun hn => by
   obtain ⟨ad,e,hc⟩:=h.2.2 hn
   refine ⟨ad,e,fun j p hj => ?_⟩
   obtain ⟨c,hs,hr,hcell⟩:=hc j p hj
   exact ⟨c,hs,hd.K hb hr,fun i u hu => cell_heap hb (hcell i u hu)⟩⟩
section
variable {α:Type} {d:Kd α} {e base g n c:Nat} {ok:Nat → Prop} {w w0 W:World} {A:Option Addr} {xs:List α}
end
end Kd
end Go.Proofs.YtmcpeifhapekoaaDoorW.PrintWords
-- PRINTED BY print.sh 35421559b90ae4d0a3588c463048766b98c2df88dd9212a6774a882060cdf62d: not written by this session
namespace Go.Proofs.YtmcpeifhapekoaaDoorW.PrintWords
open Go.RowKit
def Kept (w W:World) (S:Nat → Prop):Prop:=w.heap.size ≤ W.heap.size ∧ ∀ i,i < w.heap.size → ¬ S i → W.heap[i]? = w.heap[i]?
section
variable {w W W2:World} {S S2 S':Nat → Prop}
theorem Kept.refl (w:World) (S:Nat → Prop):Kept w w S:=⟨Nat.le_refl _,fun _ _ _ => rfl⟩
theorem Kept.of_below (h:Below w.heap.size w W) (S:Nat → Prop):Kept w W S:=⟨h.size,fun i hi _ => h.block i hi⟩
theorem Kept.mono (h:Kept w W S) (hs:∀ k,S k → S' k):Kept w W S':=⟨h.1,fun i hi hn => h.2 i hi (fun hk => hn (hs i hk))⟩
theorem Kept.then_ (h:Kept w W S) (k:Kept W W2 S2) (hs:∀ k,S2 k → S k ∨ w.heap.size ≤ k):Kept w W2 S :=
 ⟨Nat.le_trans h.1 k.1,fun i hi hn => (k.2 i (Nat.lt_of_lt_of_le hi h.1) (fun h2 => (hs i h2).elim hn (fun h3 => by omega))).trans (h.2 i hi hn)⟩
theorem Kept.of_grown {row:Option Nat} (hg:W.grownBy W2 row) (h:Kept w W S) (hr:∀ k,row = some k → S k ∨ w.heap.size ≤ k):Kept w W2 S :=
 h.then_ (S2:=fun k => row = some k) ⟨hg.size,fun i hi hn => hg.block i hi (fun he => hn he.symm)⟩ hr
theorem Kept.below (h:Kept w W S) (hb:Below W.heap.size W W2):Kept w W2 S:=h.then_ (Kept.of_below hb (fun _ => False)) (fun _ hk => hk.elim)
theorem Kept.alloc (h:Kept w W S) (o:Obj):Kept w (W.alloc o) S:=h.below (uf (Below.refl _ _) o)
theorem Kept.drew (h:Kept w W S):Kept w W.drew S:=h
theorem Kept.drewN (h:Kept w W S) (m:Nat):Kept w (W.drewN m) S:=h
theorem Kept.setCell (h:Kept w W S) {p:Addr} (hp:S p.block ∨ w.heap.size ≤ p.block) (u:Value):Kept w (W.setCell p u) S :=
 h.then_ (S2:=fun k => k = p.block) ⟨by simp [World.setCell],fun i _ hn => Below.heap_setCell W p u i hn⟩ (fun k hk => by rw [hk];exact hp)
theorem Kept.keep {g:Nat} (h:uz w W g none) (k:Kept W W2 S2) (hs:∀ k,S2 k → w.heap.size ≤ k):uz w W2 g none :=
 ⟨Nat.le_trans h.1 k.1,fun i hi hg hr => (k.2 i (Nat.lt_of_lt_of_le hi h.1) (fun h2 => by have:=hs i h2;omega)).trans (h.2 i hi hg hr)⟩
end
namespace Kd
section
variable {α:Type} {d:Kd α} {e base n c:Nat} {ok oki S S2:Nat → Prop} {w w0 W W1 W2:World} {v:Value} {A:Option Addr} {xs:List α} {i:Int} {cs:List Value}
end
end Kd
end Go.Proofs.YtmcpeifhapekoaaDoorW.PrintWords
-- PRINTED BY print.sh 35421559b90ae4d0a3588c463048766b98c2df88dd9212a6774a882060cdf62d: not written by this session
namespace Go.Proofs.YtmcpeifhapekoaaDoorW.PrintWords
open Go.RowKit
def Foot (P:World → Prop) (W:World) (ok:Nat → Prop):Prop:=∀ W':World,(∀ k,ok k → k < W.heap.size → W'.heap[k]? = W.heap[k]?) → P W'
theorem heap_lt {W W1:World} {k:Nat} (h:W1.heap[k]? = W.heap[k]?) (hlt:k < W.heap.size):k < W1.heap.size:=by
 rw [Array.getElem?_eq_getElem hlt] at h
 exact (Array.getElem?_eq_some_iff.1 h).1
namespace Foot
variable {P Q:World → Prop} {W W1:World} {ok ok':Nat → Prop}
theorem now (h:Foot P W ok):P W:=h W (fun _ _ _ => rfl)
theorem mono (h:Foot P W ok) (hok:∀ k,ok k → ok' k):Foot P W ok':=fun W' hW => h W' (fun k hk hlt => hW k (hok k hk) hlt)
theorem bound (h:Foot P W ok):Foot P W (fun k => ok k ∧ k < W.heap.size):=fun W' hW => h W' (fun k hk hlt => hW k ⟨hk,hlt⟩ hlt)
theorem step (h:Foot P W ok) (hm:∀ k,ok k → k < W.heap.size → W1.heap[k]? = W.heap[k]?):Foot P W1 ok:=fun W' hW => h W' (fun k hk hlt => (hW k hk (heap_lt (hm k hk hlt) hlt)).trans (hm k hk hlt))
theorem imp (h:Foot P W ok) (hi:∀ W',P W' → Q W'):Foot Q W ok:=fun W' hW => hi W' (h W' hW)
theorem old (h:Foot P W ok) (hb:Below W.heap.size W W1):Foot P W1 (fun k => ok k ∧ k < W.heap.size):=(h.bound).step (fun k _ hlt => hb.block k hlt)
end Foot
namespace Kd
def F {α:Type} (d:Kd α) (W:World) (ok:Nat → Prop) (A:Option Addr) (n:Nat) (xs:List α):Prop:=Foot (fun W => d.C W A n xs) W ok
def FK {α:Type} (d:Kd α) (W:World) (ok:Nat → Prop) (x:α) (c:List Value):Prop:=Foot (fun W => d.K W x c) W ok
section
variable {α β:Type} {d:Kd α} {e base n n' cc g N:Nat} {ok ok' okp S:Nat → Prop} {w w0 w1 W W1:World} {A A':Option Addr} {u v v1:Value} {xs:List α} {xs':List β} {d':Kd β} {x:α} {c:List Value}
end
end Kd
end Go.Proofs.YtmcpeifhapekoaaDoorW.PrintWords
-- PRINTED BY print.sh 35421559b90ae4d0a3588c463048766b98c2df88dd9212a6774a882060cdf62d: not written by this session
namespace Go.Proofs.YtmcpeifhapekoaaDoorW.PrintWords
open Go.RowKit
namespace Kd
section
variable {α:Type} {d:Kd α} {e base n cc g:Nat} {ok ok' okp S:Nat → Prop} {w w1 W W1:World} {A:Option Addr} {u v v1:Value} {xs:List α} {x:α} {c:List Value}
def N {α:Type} (d:Kd α) (e:Nat) (w:World) (base:Nat) (ok:Nat → Prop) (v:Value) (xs:List α):Prop :=
 (∀ k,v.ownBlock = some k → ok k) ∧ ∃ rows:List (List Value),rows.length = xs.length ∧ (raw d.sz).R e w base (fun k => some k = v.ownBlock) v rows ∧ ∀ (j:Nat) (x:α) (c:List Value),xs[j]? = some x → rows[j]? = some c → FK d w (fun k => ok k ∧ some k ≠ v.ownBlock) x c
end
end Kd
end Go.Proofs.YtmcpeifhapekoaaDoorW.PrintWords
-- PRINTED BY print.sh 35421559b90ae4d0a3588c463048766b98c2df88dd9212a6774a882060cdf62d: not written by this session
namespace Go.Proofs.YtmcpeifhapekoaaDoorW.PrintWords
open Go.RowKit
namespace Kd
section
variable {α:Type} {d:Kd α} {W:World} {g n:Nat} {S ok:Nat → Prop} {A:Option Addr} {ad:Addr} {xs:List α}
end
end Kd
end Go.Proofs.YtmcpeifhapekoaaDoorW.PrintWords
-- PRINTED BY print.sh 35421559b90ae4d0a3588c463048766b98c2df88dd9212a6774a882060cdf62d: not written by this session
namespace Go.Proofs.YtmcpeifhapekoaaDoorW.PrintWords
open Go.RowKit
section
variable {w w' u:World} {m B g:Nat} {o:Obj} {row:Option Nat} {S:Nat → Prop} {a:Addr} {v:Value}
theorem below_at (hq:w.drewN m = w') (h:Below B u w):Below B u w':=by subst hq;exact ud h m
theorem kept_at (hq:w.drewN m = w') (h:Kept u w S):Kept u w' S:=by subst hq;exact Kept.drewN h m
theorem cell_at (hq:w.drewN m = w') (h:w.cell? a = some v):w'.cell? a = some v:=by subst hq;exact h
end
namespace Kd
section
variable {α:Type} {d:Kd α} {e base n m:Nat} {ok:Nat → Prop} {w w':World} {v:Value} {A:Option Addr} {xs:List α}
end
end Kd
end Go.Proofs.YtmcpeifhapekoaaDoorW.PrintWords
-- PRINTED BY print.sh 35421559b90ae4d0a3588c463048766b98c2df88dd9212a6774a882060cdf62d: not written by this session
namespace Go.Proofs.YtmcpeifhapekoaaDoorW.PrintWords
open Go.RowKit
section
variable {P:Program} {d:Nat} {xs ys:Array Value} {f:Field} {fs:List Field} {a b:Value} {r s:Bool} {w:World}
theorem eqf_last (hn:(f.name == "_") = false) (ha:(part f.type xs f.offset).run P w = .ok a w) (hb:(part f.type ys f.offset).run P w = .ok b w) (he:(Op.equalIn d f.type a b).run P w = .ok r w):(Op.eqFields d xs ys [f]).run P w = .ok r w:=by
 have hn':f.name ≠ "_" := by simpa using hn
 simp only [Op.eqFields,if_pos hn',Sem.run_bind,ha,hb,he,Result.andThen_ok]
 cases r <;> simp
theorem eqf_cons (hn:(f.name == "_") = false) (ha:(part f.type xs f.offset).run P w = .ok a w) (hb:(part f.type ys f.offset).run P w = .ok b w) (he:(Op.equalIn d f.type a b).run P w = .ok r w) (hr:(Op.eqFields d xs ys fs).run P w = .ok s w):(Op.eqFields d xs ys (f :: fs)).run P w = .ok (r && s) w:=by
 have hn':f.name ≠ "_" := by simpa using hn
 rw [Op.eqFields]
 simp only [if_pos hn',Sem.run_bind,ha,hb,he,Result.andThen_ok]
 cases r
 · simp
 · simpa using hr
theorem eqA_of {t:TypeId} {fs:Array Field} (hu:P.underlying t = some (.struct fs)) (hp:P.stoodInHeld t = false) (h:(Op.eqFields d xs ys fs.toList).run P w = .ok r w):(Op.equalIn (d + 1) t (.agg xs) (.agg ys)).run P w = .ok r w:=by
 have hf:P.fieldsOf t = fs:=by simp [Program.fieldsOf,hu]
 rw [run_equalIn_struct (P:=P) w d t xs ys (by rw [hf];exact hu) hp,hf]
 exact h
end
end Go.Proofs.YtmcpeifhapekoaaDoorW.PrintWords
-- PRINTED BY print.sh 35421559b90ae4d0a3588c463048766b98c2df88dd9212a6774a882060cdf62d: not written by this session
namespace Go.Proofs.YtmcpeifhapekoaaDoorW.PrintWords
theorem Reps.one {α:Type} {R:α → List Value → Prop} {ps:List α} {cs:List Value} {p:α} {v:Value} (hp:R p [v]) (h:Reps R 1 ps cs):Reps R 1 (p :: ps) (v :: cs):=by
 refine ⟨by simp [h.1],fun j q hq => ?_⟩
 cases j with
 | zero =>
   simp only [List.getElem?_cons_zero,Option.some.injEq] at hq
   subst hq
   simpa using hp
 | succ j =>
   simp only [List.getElem?_cons_succ] at hq
   have h1:=h.2 j q hq
   simpa [Nat.mul_one] using h1
theorem Reps.front {α:Type} {R:α → List Value → Prop} {size:Nat} {ps:List α} {cs c all:List Value} {p:α} (hp:R p c) (hc:c.length = size) (h:Reps R size ps cs) (ha:c ++ cs = all):Reps R size (p :: ps) all:=by
 subst ha
 refine ⟨by rw [List.length_append,hc,h.1,List.length_cons,Nat.succ_mul,Nat.add_comm],fun j q hq => ?_⟩
 cases j with
 | zero =>
   simp only [List.getElem?_cons_zero,Option.some.injEq] at hq
   subst hq
   rw [Nat.zero_mul,List.drop_zero,List.take_append_of_le_length (by omega),List.take_of_length_le (by omega)]
   exact hp
 | succ j =>
   simp only [List.getElem?_cons_succ] at hq
   have h1:=h.2 j q hq
   rw [Nat.succ_mul,List.drop_append,List.drop_of_length_le (by rw [hc];exact Nat.le_add_left _ _),List.nil_append,hc,Nat.add_sub_cancel]
   exact h1
theorem Reps.c2 {α:Type} {R:α → List Value → Prop} {ps:List α} {cs:List Value} {p:α} {va vb:Value} (hp:R p [va,vb]) (h:Reps R 2 ps cs):Reps R 2 (p :: ps) (va :: vb :: cs):=Reps.front hp rfl h rfl
theorem Reps.c3 {α:Type} {R:α → List Value → Prop} {ps:List α} {cs:List Value} {p:α} {va vb vc:Value} (hp:R p [va,vb,vc]) (h:Reps R 3 ps cs):Reps R 3 (p :: ps) (va :: vb :: vc :: cs):=Reps.front hp rfl h rfl
theorem Reps.c4 {α:Type} {R:α → List Value → Prop} {ps:List α} {cs:List Value} {p:α} {va vb vc vd:Value} (hp:R p [va,vb,vc,vd]) (h:Reps R 4 ps cs):Reps R 4 (p :: ps) (va :: vb :: vc :: vd :: cs):=Reps.front hp rfl h rfl
theorem Reps.c5 {α:Type} {R:α → List Value → Prop} {ps:List α} {cs:List Value} {p:α} {va vb vc vd ve:Value} (hp:R p [va,vb,vc,vd,ve]) (h:Reps R 5 ps cs):Reps R 5 (p :: ps) (va :: vb :: vc :: vd :: ve :: cs):=Reps.front hp rfl h rfl
theorem Reps.c6 {α:Type} {R:α → List Value → Prop} {ps:List α} {cs:List Value} {p:α} {va vb vc vd ve vf:Value} (hp:R p [va,vb,vc,vd,ve,vf]) (h:Reps R 6 ps cs):Reps R 6 (p :: ps) (va :: vb :: vc :: vd :: ve :: vf :: cs):=Reps.front hp rfl h rfl
theorem Reps.c7 {α:Type} {R:α → List Value → Prop} {ps:List α} {cs:List Value} {p:α} {va vb vc vd ve vf vg:Value} (hp:R p [va,vb,vc,vd,ve,vf,vg]) (h:Reps R 7 ps cs):Reps R 7 (p :: ps) (va :: vb :: vc :: vd :: ve :: vf :: vg :: cs):=Reps.front hp rfl h rfl
theorem Reps.c8 {α:Type} {R:α → List Value → Prop} {ps:List α} {cs:List Value} {p:α} {va vb vc vd ve vf vg vh:Value} (hp:R p [va,vb,vc,vd,ve,vf,vg,vh]) (h:Reps R 8 ps cs):Reps R 8 (p :: ps) (va :: vb :: vc :: vd :: ve :: vf :: vg :: vh :: cs):=Reps.front hp rfl h rfl
theorem Reps.c9 {α:Type} {R:α → List Value → Prop} {ps:List α} {cs:List Value} {p:α} {va vb vc vd ve vf vg vh vi:Value} (hp:R p [va,vb,vc,vd,ve,vf,vg,vh,vi]) (h:Reps R 9 ps cs):Reps R 9 (p :: ps) (va :: vb :: vc :: vd :: ve :: vf :: vg :: vh :: vi :: cs):=Reps.front hp rfl h rfl
end Go.Proofs.YtmcpeifhapekoaaDoorW.PrintWords
-- PRINTED BY print.sh 35421559b90ae4d0a3588c463048766b98c2df88dd9212a6774a882060cdf62d: not written by this session
namespace Go.Proofs.YtmcpeifhapekoaaDoorW.PrintLast
def up (b:Nat → Bool) (i:Nat):Nat → Bool:=fun j => if j = i then true else b j
section
variable {P:Program} {ops:Array Oper} {Q:Exit → Act → World → Prop} {md:Region.Mode} {T:Bool × List (List Nat × List Nat)} {B:List Nat} {O:List Nat} {b:Nat → Bool} {i j n:Nat}
end
end Go.Proofs.YtmcpeifhapekoaaDoorW.PrintLast
-- PRINTED BY print.sh 35421559b90ae4d0a3588c463048766b98c2df88dd9212a6774a882060cdf62d: not written by this session
namespace Go.Proofs.YtmcpeifhapekoaaDoorW.PrintWords
open Go.RowKit
end Go.Proofs.YtmcpeifhapekoaaDoorW.PrintWords
namespace Go.Proofs.YtmcpeifhapekoaaDoorW.PrintLast
section
variable {ops:Array Oper} {a:Act} {o og:Oper} {g:Nat} {t:Tmp} {u:Bool}
end
end Go.Proofs.YtmcpeifhapekoaaDoorW.PrintLast
-- PRINTED BY print.sh 35421559b90ae4d0a3588c463048766b98c2df88dd9212a6774a882060cdf62d: not written by this session
namespace Go.Proofs.YtmcpeifhapekoaaDoorW.PrintWords
open Go.RowKit
section
variable {P:Program} {ops:Array Oper} {rest:List Oper} {o:Oper} {a:Act} {Q:Exit → Act → World → Prop} {W:World}
theorem u2k (hw:Region.wanted o (yielded ops a.tmps) = true) (h:wpList P ops Q ({ o with guard:=none } :: rest) a W):wpList P ops Q (o :: rest) a W:=by
 have h1:Region.wanted { o with guard:=none } (yielded ops a.tmps) = true:=rfl
 unfold wpList at h ⊢
 rw [if_pos h1] at h
 rw [if_pos hw]
 exact h
end
end Go.Proofs.YtmcpeifhapekoaaDoorW.PrintWords
-- PRINTED BY print.sh 35421559b90ae4d0a3588c463048766b98c2df88dd9212a6774a882060cdf62d: not written by this session
namespace Go.Proofs.YtmcpeifhapekoaaDoorW.PrintWords
open Go.RowKit
namespace Kd
section
variable {α:Type} {d:Kd α} {e base n cap g:Nat} {ok ok' okp:Nat → Prop} {w w1 W:World} {v v1:Value} {xs ys:List α}
end
section
variable {P:Program} {ops:Array Oper} {rest:List Oper} {o:Oper} {a:Act} {Q:Exit → Act → World → Prop} {Kc:Act → World → Prop} {α:Type}
end
end Kd
end Go.Proofs.YtmcpeifhapekoaaDoorW.PrintWords
-- PRINTED BY print.sh 35421559b90ae4d0a3588c463048766b98c2df88dd9212a6774a882060cdf62d: not written by this session
-- PRINTED WORDS (module Derived/Print/More.lean): go-gate-2's additions: an AI agent of Go's test side, Tue Nov 17 2026; no person has read it. Lean checks it.
namespace Go.Proofs.YtmcpeifhapekoaaDoorW.PrintMore
open Go.RowKit Go.Proofs.YtmcpeifhapekoaaDoorW.PrintWords
namespace Kd
open Go.Proofs.YtmcpeifhapekoaaDoorW.PrintWords.Kd
end Kd
namespace Kd
open Go.Proofs.YtmcpeifhapekoaaDoorW.PrintWords.Kd
section
variable {α:Type} {d:Kd α} {e base g N:Nat} {ok:Nat → Prop} {W w1:World} {u v:Value} {xs:List α}
end
end Kd
theorem max2_int (k k':IntKind) (x y:Int):Builtin.max2 (.int k x) (.int k' y) = pure (.int k (if x < y then y else x)):=by simp only [Builtin.max2,gt_iff_lt]
theorem min2_int (k k':IntKind) (x y:Int):Builtin.min2 (.int k x) (.int k' y) = pure (.int k (if y < x then y else x)):=by simp only [Builtin.min2]
theorem max_two (ats:Array TypeId) (ty:TypeId) (a b:Value):Builtin.max_ ats ty #[a,b] = (Builtin.max2 a b >>= fun s => pure s):=by simp only [Builtin.max_,List.foldlM_cons,List.foldlM_nil]
theorem min_two (ats:Array TypeId) (ty:TypeId) (a b:Value):Builtin.min_ ats ty #[a,b] = (Builtin.min2 a b >>= fun s => pure s):=by simp only [Builtin.min_,List.foldlM_cons,List.foldlM_nil]
theorem max_three (ats:Array TypeId) (ty:TypeId) (a b c:Value):Builtin.max_ ats ty #[a,b,c] = (Builtin.max2 a b >>= fun s => Builtin.max2 s c >>= fun s => pure s):=by simp only [Builtin.max_,List.foldlM_cons,List.foldlM_nil]
theorem min_three (ats:Array TypeId) (ty:TypeId) (a b c:Value):Builtin.min_ ats ty #[a,b,c] = (Builtin.min2 a b >>= fun s => Builtin.min2 s c >>= fun s => pure s):=by simp only [Builtin.min_,List.foldlM_cons,List.foldlM_nil]
theorem max_four (ats:Array TypeId) (ty:TypeId) (a b c d:Value):Builtin.max_ ats ty #[a,b,c,d] = (Builtin.max2 a b >>= fun s => Builtin.max2 s c >>= fun s => Builtin.max2 s d >>= fun s => pure s):=by simp only [Builtin.max_,List.foldlM_cons,List.foldlM_nil]
theorem min_four (ats:Array TypeId) (ty:TypeId) (a b c d:Value):Builtin.min_ ats ty #[a,b,c,d] = (Builtin.min2 a b >>= fun s => Builtin.min2 s c >>= fun s => Builtin.min2 s d >>= fun s => pure s):=by simp only [Builtin.min_,List.foldlM_cons,List.foldlM_nil]
end Go.Proofs.YtmcpeifhapekoaaDoorW.PrintMore
namespace Go.Proofs.YtmcpeifhapekoaaDoorW.PrintWords
open Go.RowKit
section
variable {P:Program} {ops:Array Oper} {rest:List Oper} {o:Oper} {a:Act} {Q:Exit → Act → World → Prop} {W:World}
theorem u2g {f:FuncId} {as_:Array Operand} {ts:Array TypeId} (_ho:o.op = .call { callee:=.value (.func f),args:=as_,argTypes:=ts }) (h:wpList P ops Q (o :: rest) a W):wpList P ops Q (o :: rest) a W:=h
theorem u1t {b:Builtin} {xs:Array Operand} {ts:Array TypeId} (_ho:o.op = .call { callee:=.builtin b,args:=xs,argTypes:=ts }) (h:wpList P ops Q (o :: rest) a W):wpList P ops Q (o :: rest) a W:=h
end
theorem cell_grown {W w1:World} {row:Option Nat} (hg:W.grownBy w1 row) {a:Addr} {v:Value} (h:W.cell? a = some v) (hne:some a.block ≠ row):w1.cell? a = some v:=by
 have:=hg.block a.block (World.block_lt_of_cell? W a h) hne
 simpa [World.cell?,this] using h
namespace Kd
section
variable {α:Type} {d:Kd α} {e base:Nat} {ok:Nat → Prop} {W w1:World} {v:Value} {xs:List α}
theorem R_far1 (h:d.R e W base ok v xs) (hE:d.E = []) {g:Nat} (hne:some g ≠ v.ownBlock):d.R e W base (fun k => ok k ∧ k ≠ g) v xs :=
 R_mono (R_tight hE h) (fun k hk => ⟨h.1 k hk.symm,fun e_ => hne (by rw [← e_];exact hk)⟩)
end
section
variable {α:Type} {d:Kd α} {e base g n cap:Nat} {ok oki okp:Nat → Prop} {W:World} {xs:List α} {i:Int} {c:List Value}
end
section
variable {α:Type} {d:Kd α} {e base b b' g N:Nat} {ok ok1:Nat → Prop} {W W2 w1:World} {u v:Value} {xs ys:List α} {S:Nat → Prop}
end
end Kd
end Go.Proofs.YtmcpeifhapekoaaDoorW.PrintWords
namespace Go.Proofs.YtmcpeifhapekoaaDoorW.PrintWords
open Go.RowKit
namespace Kd
def V {α:Type} (d:Kd α) (_e:Nat) (W:World) (_base:Nat) (ok:Nat → Prop) (v:Value) (xs:List α):Prop:=∃ A c,v = .slice A xs.length c ∧ xs.length ≤ c ∧ F d W ok A xs.length xs
section
variable {α β:Type} {d:Kd α} {e base base' n m c g N' lo hi:Nat} {ok ok' S:Nat → Prop} {w W w1:World} {A:Option Addr} {ad:Addr} {u v v1:Value} {xs:List α}
end
end Kd
end Go.Proofs.YtmcpeifhapekoaaDoorW.PrintWords
namespace Go.Proofs.YtmcpeifhapekoaaDoorW.PrintLast
def marks (n:Nat):List Nat → Array Bool
 | [] => Array.replicate n false
 | i :: r => (marks n r).setIfInBounds i true
section
variable {P:Program} {ops:Array Oper} {Q:Exit → Act → World → Prop} {md:Region.Mode} {S:World → Prop} {ds:List Nat}
end
end Go.Proofs.YtmcpeifhapekoaaDoorW.PrintLast
namespace Go.Proofs.YtmcpeifhapekoaaDoor.PAll
open Go.RowKit Go.Proofs.YtmcpeifhapekoaaDoorW.PrintWords Go.Proofs.YtmcpeifhapekoaaDoorW.PrintLast Go.Proofs.YtmcpeifhapekoaaDoorW.PrintMore
attribute [local go_sem] max2_int min2_int max_two min_two max_three min_three max_four min_four
set_option linter.unusedVariables false
set_option linter.unusedSimpArgs false
def errW:Option Int → Value
 | none => .nilIface
 | some c => .iface 0 (.int .i64 c)
theorem u2f:errW none = .nilIface:=rfl
theorem u2e (c:Int):errW (some c) = .iface 0 (.int .i64 c):=rfl
-- the values' own types
structure S37 where
 f0:ByteArray
 f1:ByteArray
def z37:S37:=⟨(⟨#[]⟩:ByteArray),(⟨#[]⟩:ByteArray)⟩
def k37:Kd S37:=Kd.iso (Kd.pair Kd.string Kd.string) (fun x:S37 => (x.f0,x.f1))
theorem k37_open {w:World} {x:S37} {cs:List Value} (h:k37.K w x cs):cs = [.string x.f0,.string x.f1]:=by
 obtain ⟨_,_,rfl,rfl,rfl⟩:=h
 exact rfl
theorem k37_mkM (w:World) (base:Nat) (ok:Nat → Prop) (x:S37)  : k37.M w base ok x [.string x.f0,.string x.f1]:=⟨[.string x.f0],[.string x.f1],rfl,rfl,rfl⟩
def u1m (xs:List S37) (i:Int):S37:=xs.getD i.toNat z37
theorem at_T37 {w:World} {A:Option Addr} {n:Nat} {xs:List S37} (h:Kd.C k37 w A n xs) (i:Int) (h0:0 ≤ i) (h1:i < n):∃ ad , A = some ad ∧ w.cell? (ad.add (i.toNat * 2)) = some (.string (u1m xs i).f0) ∧ w.cell? ⟨(ad.add (i.toNat * 2)).block,(ad.add (i.toNat * 2)).off + 1,none⟩ = some (.string (u1m xs i).f1):=by
 obtain ⟨ad,c,e,_,hK,hc0⟩:=Kd.C_get h z37 i h0 h1
 have hc:∀ j u,c[j]? = some u → w.cell? (ad.add (i.toNat * 2 + j)) = some u:=hc0
 obtain rfl:=k37_open hK
 exact ⟨ad,e,hc 0 _ rfl,by rw [← add_field _ _ 1 (by omega)];exact hc 1 _ rfl⟩
structure S25 where
 f0:(List S37)
 f1:Int
 f2:Int
def z25:S25:=⟨([]:List S37),(0:Int),(0:Int)⟩
def k25:Kd S25:=Kd.iso (Kd.pair (Kd.slice 37 k37) (Kd.pair (Kd.int .i64) (Kd.int .u64))) (fun x:S25 => (x.f0,x.f1,x.f2))
theorem k25_open {w:World} {x:S25} {cs:List Value} (h:k25.K w x cs):∃ A0 c0,cs = [.slice A0 x.f0.length c0,.int .i64 x.f1,.int .u64 x.f2] ∧ x.f0.length ≤ c0 ∧ k37.C w A0 x.f0.length x.f0:=by
 obtain ⟨_,_,rfl,⟨A0,c0,rfl,l0,g0⟩,⟨_,_,rfl,rfl,rfl⟩⟩:=h
 exact ⟨A0,c0,rfl,l0,g0⟩
theorem k25_mkM (w:World) (base:Nat) (ok:Nat → Prop) (x:S25) {v0:Value} (g0:k37.R 37 w base ok v0 x.f0):k25.M w base ok x [v0,.int .i64 x.f1,.int .u64 x.f2]:=⟨[v0],[.int .i64 x.f1,.int .u64 x.f2],rfl,⟨v0,rfl,g0⟩,⟨[.int .i64 x.f1],[.int .u64 x.f2],rfl,rfl,rfl⟩⟩
def rd_T25 (xs:List S25) (i:Int):S25:=xs.getD i.toNat z25
theorem at_T25 {w:World} {A:Option Addr} {n:Nat} {xs:List S25} (h:Kd.C k25 w A n xs) (i:Int) (h0:0 ≤ i) (h1:i < n):∃ ad A0 c0,A = some ad ∧ w.cell? (ad.add (i.toNat * 3)) = some (.slice A0 (rd_T25 xs i).f0.length c0) ∧ w.cell? ⟨(ad.add (i.toNat * 3)).block,(ad.add (i.toNat * 3)).off + 1,none⟩ = some (.int .i64 (rd_T25 xs i).f1) ∧ w.cell? ⟨(ad.add (i.toNat * 3)).block,(ad.add (i.toNat * 3)).off + 2,none⟩ = some (.int .u64 (rd_T25 xs i).f2) ∧ (rd_T25 xs i).f0.length ≤ c0 ∧ k37.C w A0 (rd_T25 xs i).f0.length (rd_T25 xs i).f0:=by
 obtain ⟨ad,c,e,_,hK,hc0⟩:=Kd.C_get h z25 i h0 h1
 have hc:∀ j u,c[j]? = some u → w.cell? (ad.add (i.toNat * 3 + j)) = some u:=hc0
 obtain ⟨A0,c0,rfl,l0,g0⟩:=k25_open hK
 exact ⟨ad,A0,c0,e,hc 0 _ rfl,by rw [← add_field _ _ 1 (by omega)];exact hc 1 _ rfl,by rw [← add_field _ _ 2 (by omega)];exact hc 2 _ rfl,l0,g0⟩
structure S51 where
 f0:ByteArray
 f1:ByteArray
 f2:ByteArray
def z51:S51:=⟨(⟨#[]⟩:ByteArray),(⟨#[]⟩:ByteArray),(⟨#[]⟩:ByteArray)⟩
def k51:Kd S51:=Kd.iso (Kd.pair Kd.string (Kd.pair Kd.string Kd.string)) (fun x:S51 => (x.f0,x.f1,x.f2))
theorem k51_openM {w:World} {base:Nat} {ok:Nat → Prop} {x:S51} {cs:List Value} (h:k51.M w base ok x cs):cs = [.string x.f0,.string x.f1,.string x.f2]:=by
 obtain ⟨_,_,rfl,rfl,⟨_,_,rfl,rfl,rfl⟩⟩:=h
 exact rfl
theorem k51_mkM (w:World) (base:Nat) (ok:Nat → Prop) (x:S51)  : k51.M w base ok x [.string x.f0,.string x.f1,.string x.f2]:=⟨[.string x.f0],[.string x.f1,.string x.f2],rfl,rfl,⟨[.string x.f1],[.string x.f2],rfl,rfl,rfl⟩⟩
def u1r.chain (c:Int):List PanicEntry:=[{ v:=.iface 71 (.agg #[.int .i64 c]),recovered:=false }]
theorem u1r.calls (c:Int) (W:World):Calls Tryd.prog 29 #[.int .i64 c] W fun e W' => e = .panicked (u1r.chain c) ∧ W' = W:=by
 go_enter Tryd.func29,Tryd.ntmps29
 go_wp2
 exact ⟨rfl,rfl,rfl⟩
theorem eqA28 (d:Nat) (w:World) (x0 y0:Int) (x1 y1:Int) :
 (Op.equalIn (d + 2) 28 (.agg #[.int .i64 x0,.int .i64 x1]) (.agg #[.int .i64 y0,.int .i64 y1])).run Tryd.prog w = .ok (x0 == y0 && (x1 == y1)) w:=by
 refine eqA_of Tryd.underlying28 (by kernel_rfl) ?_
 refine eqf_cons (by rfl) (by go_simp;rfl) (by go_simp;rfl) (by go_simp) ?_
 exact eqf_last (by rfl) (by go_simp;rfl) (by go_simp;rfl) (by go_simp)
theorem eqA37 (d:Nat) (w:World) (x0 y0:ByteArray) (x1 y1:ByteArray) :
 (Op.equalIn (d + 2) 37 (.agg #[.string x0,.string x1]) (.agg #[.string y0,.string y1])).run Tryd.prog w = .ok (x0.toList == y0.toList && (x1.toList == y1.toList)) w:=by
 refine eqA_of Tryd.underlying37 (by kernel_rfl) ?_
 refine eqf_cons (by rfl) (by go_simp;rfl) (by go_simp;rfl) (by go_simp) ?_
 exact eqf_last (by rfl) (by go_simp;rfl) (by go_simp;rfl) (by go_simp)
theorem u1l.calls_ok (W:World):Calls Tryd.prog 45 #[.bool true] W fun e W' => e = .returned (.tuple #[]) ∧ W' = W:=by
 go_enter Tryd.func45,Tryd.ntmps45
 go_wp2
 go_end0
 exact ⟨rfl,rfl⟩
theorem u1l.calls_no (W:World):Calls Tryd.prog 45 #[.bool false] W fun e W' => e = .panicked (u1r.chain 280) ∧ W' = W:=by
 go_enter Tryd.func45,Tryd.ntmps45
 go_wp2_with (go_at_call 29;refine (u1r.calls 280 _).mono ?_;rintro e W1 ⟨rfl,rfl⟩)
 exact ⟨rfl,rfl,rfl⟩
theorem u1l.calls_yes (b:Bool) (hb:b = true) (W:World):Calls Tryd.prog 45 #[.bool b] W fun e W' => e = .returned (.tuple #[]) ∧ W' = W:=by subst hb;exact u1l.calls_ok W
theorem u1l.calls_not (b:Bool) (hb:b = false) (W:World):Calls Tryd.prog 45 #[.bool b] W fun e W' => e = .panicked (u1r.chain 280) ∧ W' = W:=by subst hb;exact u1l.calls_no W
set_option maxHeartbeats 1000000 in
set_option maxRecDepth 100000 in
theorem strings_IndexByte.lite (s:ByteArray) (c:Int) (w:World) :
 Calls Tryd.prog 42 #[.string s,.int .u8 c] w fun e w' => e = .returned (.int .i64 (Lib.indexByte s.data.toList c.toNat.toUInt8)) ∧ w' = w:=by
 go_enter Tryd.func42,Tryd.ntmps42
 go_wp2
 rw [run_callFunc_extern Tryd.func76 (by kernel_rfl) (by kernel_rfl) (by kernel_rfl) (e:=Extern.BytealgIndexByte.indexByte) (by kernel_rfl),Lib.run_indexByteString]
 simp only [Result.andThen]
 rw [Oper.upon_value]
 go_wp2
 go_ret
 exact ⟨rfl,rfl⟩
set_option maxHeartbeats 1000000 in
theorem strings_IndexByte.calls (s:ByteArray) (c:Int) (w:World) :
 Calls Tryd.prog 30 #[.string s,.int .u8 c] w fun e w' => e = .returned (.int .i64 (Lib.indexByte s.data.toList c.toNat.toUInt8)) ∧ w' = w:=by
 go_enter Tryd.func30,Tryd.ntmps30
 go_wp2_with (go_at_call 42;refine (strings_IndexByte.lite _ _ _).mono ?_;rintro e w' ⟨rfl,rfl⟩)
 go_ret
 exact ⟨rfl,rfl⟩
def labels_digit.f (a0:Int):Option (Bool):=if a0 ≥ 48 then (some (decide (a0 ≤ 57))) else (some false)
set_option maxHeartbeats 8000000 in
set_option maxRecDepth 100000 in
theorem labels_digit.calls (a0:Int) (r:Bool) (w:World) (h:labels_digit.f a0 = some r) :
 Calls Tryd.prog 99 #[.int .u8 a0] w fun e w' => e = .returned (.bool r) ∧ u1c w w':=by
 have H:(if a0 ≥ 48 then (some (decide (a0 ≤ 57))) else (some false)) = some r:=h
 clear h
 by_cases c2:a0 ≥ 48
 · rw [if_pos c2] at H
   have c2b0:decide (48 ≤ a0) = true:=decide_eq_true c2
   clear c2
   obtain rfl:=Option.some.inj H
   go_enter Tryd.func99,Tryd.ntmps99
   go_wp2
   go_ret
   exact ⟨by first | rfl | (simp;done) | (simp [*];done),by repeat (first | exact u1c.refl _ | apply u1c.step)⟩
 · rw [if_neg c2] at H
   have c2b0:decide (48 ≤ a0) = false:=decide_eq_false c2
   clear c2
   obtain rfl:=Option.some.inj H
   go_enter Tryd.func99,Tryd.ntmps99
   go_wp2
   go_ret
   exact ⟨by first | rfl | (simp;done) | (simp [*];done),by repeat (first | exact u1c.refl _ | apply u1c.step)⟩
def text_blank.f (a0:Int):Option (Bool):=if a0 = 32 then (some true) else (some (a0 == 9))
set_option maxHeartbeats 8000000 in
set_option maxRecDepth 100000 in
theorem text_blank.calls (a0:Int) (r:Bool) (w:World) (h:text_blank.f a0 = some r) :
 Calls Tryd.prog 62 #[.int .u8 a0] w fun e w' => e = .returned (.bool r) ∧ u1c w w':=by
 have H:(if a0 = 32 then (some true) else (some (a0 == 9))) = some r:=h
 clear h
 by_cases c2:a0 = 32
 · rw [if_pos c2] at H
   have c2b0:(a0 == 32) = true:=beq_iff_eq.mpr c2
   have c2b1:(a0 != 32) = false:=bne_eq_false_iff_eq.mpr c2
   clear c2
   obtain rfl:=Option.some.inj H
   go_enter Tryd.func62,Tryd.ntmps62
   go_wp2
   go_ret
   exact ⟨by first | rfl | (simp;done) | (simp [*];done),by repeat (first | exact u1c.refl _ | apply u1c.step)⟩
 · rw [if_neg c2] at H
   have c2b0:(a0 == 32) = false:=beq_eq_false_iff_ne.mpr c2
   have c2b1:(a0 != 32) = true:=bne_iff_ne.mpr c2
   obtain rfl:=Option.some.inj H
   go_enter Tryd.func62,Tryd.ntmps62
   go_wp2
   go_ret
   exact ⟨by first | rfl | (simp;done) | (simp [*];done),by repeat (first | exact u1c.refl _ | apply u1c.step)⟩
def u1h.l0:Nat → ByteArray → Int → Option (Bool)
 | 0,_,_ => none
 | k + 1,x0,x3 => if x3 < (x0.size:Int) then (if 0 ≤ x3 then (if (bt x0 x3) ≥ 97 then (if (bt x0 x3) ≤ 122 then (u1h.l0 k x0 (wrap64 (x3 + 1))) else (if (bt x0 x3) ≥ 65 then (if (bt x0 x3) ≤ 90 then (u1h.l0 k x0 (wrap64 (x3 + 1))) else (if ((bt x0 x3) = 95) then (u1h.l0 k x0 (wrap64 (x3 + 1))) else (if x3 = 0 then (some false) else (if (bt x0 x3) < 48 then (some false) else (if (bt x0 x3) > 57 then (some false) else (u1h.l0 k x0 (wrap64 (x3 + 1)))))))) else (if ((bt x0 x3) = 95) then (u1h.l0 k x0 (wrap64 (x3 + 1))) else (if x3 = 0 then (some false) else (if (bt x0 x3) < 48 then (some false) else (if (bt x0 x3) > 57 then (some false) else (u1h.l0 k x0 (wrap64 (x3 + 1))))))))) else (if (bt x0 x3) ≥ 65 then (if (bt x0 x3) ≤ 90 then (u1h.l0 k x0 (wrap64 (x3 + 1))) else (if ((bt x0 x3) = 95) then (u1h.l0 k x0 (wrap64 (x3 + 1))) else (if x3 = 0 then (some false) else (if (bt x0 x3) < 48 then (some false) else (if (bt x0 x3) > 57 then (some false) else (u1h.l0 k x0 (wrap64 (x3 + 1)))))))) else (if ((bt x0 x3) = 95) then (u1h.l0 k x0 (wrap64 (x3 + 1))) else (if x3 = 0 then (some false) else (if (bt x0 x3) < 48 then (some false) else (if (bt x0 x3) > 57 then (some false) else (u1h.l0 k x0 (wrap64 (x3 + 1))))))))) else (none)) else (if (x0.size:Int) ≥ 1 then (some (decide ((x0.size:Int) ≤ 24))) else (some false))
def u1h.f (k:Nat) (a0:ByteArray):Option (Bool):=u1h.l0 k a0 0
def u2d.l0:Nat → ByteArray → Int → Option (ByteArray × ByteArray)
 | 0,_,_ => none
 | k + 1,x0,x4 => if x4 < (x0.size:Int) then (if 0 ≤ x4 then (if x4 ≤ (wrap64 (x4 + 1)) then (if (wrap64 (x4 + 1)) ≤ (x0.size:Int) then (if 1 + (x0.extract (x4:Int).toNat ((wrap64 (x4 + 1)):Int).toNat).size ≤ 9223372036854775807 then ((u1h.f k ((⟨#[97]⟩:ByteArray) ++ (x0.extract (x4:Int).toNat ((wrap64 (x4 + 1)):Int).toNat))).bind fun t109 => (if t109 = true then (u2d.l0 k x0 (wrap64 (x4 + 1))) else (if x4 ≤ (x0.size:Int) then (some (x0.extract 0 (x4:Int).toNat,x0.extract (x4:Int).toNat x0.size)) else (none)))) else (none)) else (none)) else (none)) else (none)) else (if 0 ≤ x4 then (if x4 ≤ (x0.size:Int) then (some (x0.extract 0 (x4:Int).toNat,x0.extract (x4:Int).toNat x0.size)) else (none)) else (none))
def u2d.f (k:Nat) (a0:ByteArray):Option (ByteArray × ByteArray):=u2d.l0 k a0 0
def labels_plain.f (a0:Int):Option (Bool):=if a0 ≥ 32 then (if a0 = 127 then (some false) else (some (a0 != 65533))) else (some false)
set_option maxHeartbeats 8000000 in
set_option maxRecDepth 100000 in
theorem labels_plain.calls (a0:Int) (r:Bool) (w:World) (h:labels_plain.f a0 = some r) :
 Calls Tryd.prog 108 #[.int .i32 a0] w fun e w' => e = .returned (.bool r) ∧ u1c w w':=by
 have H:(if a0 ≥ 32 then (if a0 = 127 then (some false) else (some (a0 != 65533))) else (some false)) = some r:=h
 clear h
 by_cases c2:a0 ≥ 32
 · rw [if_pos c2] at H
   have c2b0:decide (32 ≤ a0) = true:=decide_eq_true c2
   clear c2
   by_cases c3:a0 = 127
   · rw [if_pos c3] at H
     have c3b0:(a0 == 127) = true:=beq_iff_eq.mpr c3
     have c3b1:(a0 != 127) = false:=bne_eq_false_iff_eq.mpr c3
     clear c3
     obtain rfl:=Option.some.inj H
     go_enter Tryd.func108,Tryd.ntmps108
     go_wp2
     go_ret
     exact ⟨by first | rfl | (simp;done) | (simp [*];done),by repeat (first | exact u1c.refl _ | apply u1c.step)⟩
   · rw [if_neg c3] at H
     have c3b0:(a0 == 127) = false:=beq_eq_false_iff_ne.mpr c3
     have c3b1:(a0 != 127) = true:=bne_iff_ne.mpr c3
     obtain rfl:=Option.some.inj H
     go_enter Tryd.func108,Tryd.ntmps108
     go_wp2
     go_ret
     exact ⟨by first | rfl | (simp;done) | (simp [*];done),by repeat (first | exact u1c.refl _ | apply u1c.step)⟩
 · rw [if_neg c2] at H
   have c2b0:decide (32 ≤ a0) = false:=decide_eq_false c2
   clear c2
   obtain rfl:=Option.some.inj H
   go_enter Tryd.func108,Tryd.ntmps108
   go_wp2
   go_ret
   exact ⟨by first | rfl | (simp;done) | (simp [*];done),by repeat (first | exact u1c.refl _ | apply u1c.step)⟩
def labels_letter.f (a0:Int):Option (Bool):=if a0 = 95 then (some true) else (if (Go.bits .or .u8 a0 32) ≥ 97 then (some (decide ((Go.bits .or .u8 a0 32) ≤ 122))) else (some false))
set_option maxHeartbeats 8000000 in
set_option maxRecDepth 100000 in
theorem labels_letter.calls (a0:Int) (r:Bool) (w:World) (h:labels_letter.f a0 = some r) :
 Calls Tryd.prog 97 #[.int .u8 a0] w fun e w' => e = .returned (.bool r) ∧ u1c w w':=by
 have H:(if a0 = 95 then (some true) else (if (Go.bits .or .u8 a0 32) ≥ 97 then (some (decide ((Go.bits .or .u8 a0 32) ≤ 122))) else (some false))) = some r:=h
 clear h
 by_cases c2:a0 = 95
 · rw [if_pos c2] at H
   have c2b0:(a0 == 95) = true:=beq_iff_eq.mpr c2
   have c2b1:(a0 != 95) = false:=bne_eq_false_iff_eq.mpr c2
   clear c2
   obtain rfl:=Option.some.inj H
   go_enter Tryd.func97,Tryd.ntmps97
   go_wp2
   go_ret
   exact ⟨by first | rfl | (simp;done) | (simp [*];done),by repeat (first | exact u1c.refl _ | apply u1c.step)⟩
 · rw [if_neg c2] at H
   have c2b0:(a0 == 95) = false:=beq_eq_false_iff_ne.mpr c2
   have c2b1:(a0 != 95) = true:=bne_iff_ne.mpr c2
   by_cases c3:(Go.bits .or .u8 a0 32) ≥ 97
   · rw [if_pos c3] at H
     have c3b0:decide (97 ≤ (Go.bits .or .u8 a0 32)) = true:=decide_eq_true c3
     clear c3
     obtain rfl:=Option.some.inj H
     go_enter Tryd.func97,Tryd.ntmps97
     go_wp2
     go_ret
     exact ⟨by first | rfl | (simp;done) | (simp [*];done),by repeat (first | exact u1c.refl _ | apply u1c.step)⟩
   · rw [if_neg c3] at H
     have c3b0:decide (97 ≤ (Go.bits .or .u8 a0 32)) = false:=decide_eq_false c3
     clear c3
     obtain rfl:=Option.some.inj H
     go_enter Tryd.func97,Tryd.ntmps97
     go_wp2
     go_ret
     exact ⟨by first | rfl | (simp;done) | (simp [*];done),by repeat (first | exact u1c.refl _ | apply u1c.step)⟩
def u1b.f (a0:ByteArray) (a1:ByteArray):Option (Bool):=if (a0.size:Int) ≥ (a1.size:Int) then (if 0 ≤ (a1.size:Int) then (if (a1.size:Int) ≤ (a0.size:Int) then (some ((a0.extract 0 ((a1.size:Int):Int).toNat).toList == a1.toList)) else (none)) else (none)) else (some false)
set_option maxHeartbeats 8000000 in
set_option maxRecDepth 100000 in
theorem u1b.calls (a0:ByteArray) (a1:ByteArray) (r:Bool) (w:World) (h:u1b.f a0 a1 = some r) :
 Calls Tryd.prog 41 #[.string a0,.string a1] w fun e w' => e = .returned (.bool r) ∧ u1c w w':=by
 have H:(if (a0.size:Int) ≥ (a1.size:Int) then (if 0 ≤ (a1.size:Int) then (if (a1.size:Int) ≤ (a0.size:Int) then (some ((a0.extract 0 ((a1.size:Int):Int).toNat).toList == a1.toList)) else (none)) else (none)) else (some false)) = some r:=h
 clear h
 by_cases c3:(a0.size:Int) ≥ (a1.size:Int)
 · rw [if_pos c3] at H
   have c3b0:decide ((a1.size:Int) ≤ (a0.size:Int)) = true:=decide_eq_true c3
   have c3b1:decide (a1.size ≤ a0.size) = true:=decide_eq_true (Int.ofNat_le.mp c3)
   clear c3
   by_cases c4:0 ≤ (a1.size:Int)
   · rw [if_pos c4] at H
     have c4b0:=eq_true c4
     have c4b1:decide (0 ≤ (a1.size:Int)) = true:=decide_eq_true c4
     clear c4
     by_cases c5:(a1.size:Int) ≤ (a0.size:Int)
     · rw [if_pos c5] at H
       have c5b0:=eq_true c5
       have c5b1:decide ((a1.size:Int) ≤ (a0.size:Int)) = true:=decide_eq_true c5
       clear c5
       obtain rfl:=Option.some.inj H
       go_enter Tryd.func41,Tryd.ntmps41
       go_wp2
       go_ret
       exact ⟨by first | rfl | (simp;done) | (simp [*];done),by repeat (first | exact u1c.refl _ | apply u1c.step)⟩
     · rw [if_neg c5] at H
       exact absurd H (by simp)
   · rw [if_neg c4] at H
     exact absurd H (by simp)
 · rw [if_neg c3] at H
   have c3b0:decide ((a1.size:Int) ≤ (a0.size:Int)) = false:=decide_eq_false c3
   have c3b1:decide (a1.size ≤ a0.size) = false:=decide_eq_false (fun h => c3 (Int.ofNat_le.mpr h))
   clear c3
   obtain rfl:=Option.some.inj H
   go_enter Tryd.func41,Tryd.ntmps41
   go_wp2
   go_ret
   exact ⟨by first | rfl | (simp;done) | (simp [*];done),by repeat (first | exact u1c.refl _ | apply u1c.step)⟩
def uw.f (a0:ByteArray) (a1:ByteArray):Option (Bool):=(u1b.f a0 a1).bind fun t101 => (some t101)
set_option maxHeartbeats 8000000 in
set_option maxRecDepth 100000 in
theorem uw.calls (a0:ByteArray) (a1:ByteArray) (r:Bool) (w:World) (h:uw.f a0 a1 = some r) :
 Calls Tryd.prog 24 #[.string a0,.string a1] w fun e w' => e = .returned (.bool r) ∧ u1c w w':=by
 have H:((u1b.f a0 a1).bind fun t101 => (some t101)) = some r:=h
 clear h
 replace H:=Option.bind_eq_some_iff.mp H
 obtain ⟨t101,A30,H⟩:=H
 replace H:(some t101) = some r:=H
 have A3:=Aside0.mk A30
 clear A30
 obtain rfl:=Option.some.inj H
 go_enter Tryd.func24,Tryd.ntmps24
 go_wp2_with (first | ((with_reducible refine u2g (f:=41) rfl ?_);refine goesL_ (some 7) rfl rfl Tryd.func41 (by kernel_rfl) rfl #[.string a0,.string a1] rfl (by (try simp only [List.map_toArray,List.map_cons,List.map_nil]);first | done | rfl | (simp only [List.length_drop,List.length_take];rfl)) ?_;(with_reducible refine (u1b.calls a0 a1 t101 _ A3.out).mono ?_);rintro e w' ⟨rfl,⟨nd,rfl⟩⟩;refine ⟨_,rfl,?_⟩))
 go_ret
 exact ⟨by first | rfl | (simp;done) | (simp [*];done),by repeat (first | exact u1c.refl _ | apply u1c.step)⟩
def text_named.f (a0:Int):Option (Bool):=if a0 = 95 then (some true) else (if a0 ≥ 48 then (if a0 ≤ 57 then (some true) else (if (Go.bits .or .u8 a0 32) ≥ 97 then (some (decide ((Go.bits .or .u8 a0 32) ≤ 122))) else (some false))) else (if (Go.bits .or .u8 a0 32) ≥ 97 then (some (decide ((Go.bits .or .u8 a0 32) ≤ 122))) else (some false)))
set_option maxHeartbeats 8000000 in
set_option maxRecDepth 100000 in
theorem text_named.calls (a0:Int) (r:Bool) (w:World) (h:text_named.f a0 = some r) :
 Calls Tryd.prog 55 #[.int .u8 a0] w fun e w' => e = .returned (.bool r) ∧ u1c w w':=by
 have H:(if a0 = 95 then (some true) else (if a0 ≥ 48 then (if a0 ≤ 57 then (some true) else (if (Go.bits .or .u8 a0 32) ≥ 97 then (some (decide ((Go.bits .or .u8 a0 32) ≤ 122))) else (some false))) else (if (Go.bits .or .u8 a0 32) ≥ 97 then (some (decide ((Go.bits .or .u8 a0 32) ≤ 122))) else (some false)))) = some r:=h
 clear h
 by_cases c2:a0 = 95
 · rw [if_pos c2] at H
   have c2b0:(a0 == 95) = true:=beq_iff_eq.mpr c2
   have c2b1:(a0 != 95) = false:=bne_eq_false_iff_eq.mpr c2
   clear c2
   obtain rfl:=Option.some.inj H
   go_enter Tryd.func55,Tryd.ntmps55
   go_wp2
   go_ret
   exact ⟨by first | rfl | (simp;done) | (simp [*];done),by repeat (first | exact u1c.refl _ | apply u1c.step)⟩
 · rw [if_neg c2] at H
   have c2b0:(a0 == 95) = false:=beq_eq_false_iff_ne.mpr c2
   have c2b1:(a0 != 95) = true:=bne_iff_ne.mpr c2
   by_cases c3:a0 ≥ 48
   · rw [if_pos c3] at H
     have c3b0:decide (48 ≤ a0) = true:=decide_eq_true c3
     clear c3
     by_cases c4:a0 ≤ 57
     · rw [if_pos c4] at H
       have c4b0:decide (a0 ≤ 57) = true:=decide_eq_true c4
       clear c4
       obtain rfl:=Option.some.inj H
       go_enter Tryd.func55,Tryd.ntmps55
       go_wp2
       go_ret
       exact ⟨by first | rfl | (simp;done) | (simp [*];done),by repeat (first | exact u1c.refl _ | apply u1c.step)⟩
     · rw [if_neg c4] at H
       have c4b0:decide (a0 ≤ 57) = false:=decide_eq_false c4
       clear c4
       by_cases c5:(Go.bits .or .u8 a0 32) ≥ 97
       · rw [if_pos c5] at H
         have c5b0:decide (97 ≤ (Go.bits .or .u8 a0 32)) = true:=decide_eq_true c5
         clear c5
         obtain rfl:=Option.some.inj H
         go_enter Tryd.func55,Tryd.ntmps55
         go_wp2
         go_ret
         exact ⟨by first | rfl | (simp;done) | (simp [*];done),by repeat (first | exact u1c.refl _ | apply u1c.step)⟩
       · rw [if_neg c5] at H
         have c5b0:decide (97 ≤ (Go.bits .or .u8 a0 32)) = false:=decide_eq_false c5
         clear c5
         obtain rfl:=Option.some.inj H
         go_enter Tryd.func55,Tryd.ntmps55
         go_wp2
         go_ret
         exact ⟨by first | rfl | (simp;done) | (simp [*];done),by repeat (first | exact u1c.refl _ | apply u1c.step)⟩
   · rw [if_neg c3] at H
     have c3b0:decide (48 ≤ a0) = false:=decide_eq_false c3
     clear c3
     by_cases c6:(Go.bits .or .u8 a0 32) ≥ 97
     · rw [if_pos c6] at H
       have c6b0:decide (97 ≤ (Go.bits .or .u8 a0 32)) = true:=decide_eq_true c6
       clear c6
       obtain rfl:=Option.some.inj H
       go_enter Tryd.func55,Tryd.ntmps55
       go_wp2
       go_ret
       exact ⟨by first | rfl | (simp;done) | (simp [*];done),by repeat (first | exact u1c.refl _ | apply u1c.step)⟩
     · rw [if_neg c6] at H
       have c6b0:decide (97 ≤ (Go.bits .or .u8 a0 32)) = false:=decide_eq_false c6
       clear c6
       obtain rfl:=Option.some.inj H
       go_enter Tryd.func55,Tryd.ntmps55
       go_wp2
       go_ret
       exact ⟨by first | rfl | (simp;done) | (simp [*];done),by repeat (first | exact u1c.refl _ | apply u1c.step)⟩
def u1o.f (a0:ByteArray) (a1:ByteArray):Option (ByteArray × Bool):=(u1b.f a0 a1).bind fun t102 => (if t102 = true then (if 0 ≤ (a1.size:Int) then (if (a1.size:Int) ≤ (a0.size:Int) then (some (a0.extract ((a1.size:Int):Int).toNat a0.size,true)) else (none)) else (none)) else (some (a0,false)))
set_option maxHeartbeats 8000000 in
set_option maxRecDepth 100000 in
theorem u1o.calls (a0:ByteArray) (a1:ByteArray) (r1:ByteArray) (r2:Bool) (w:World) (h:u1o.f a0 a1 = some (r1,r2)) :
 Calls Tryd.prog 100 #[.string a0,.string a1] w fun e w' => e = .returned (.tuple #[.string r1,.bool r2]) ∧ u1c w w':=by
 have H:((u1b.f a0 a1).bind fun t102 => (if t102 = true then (if 0 ≤ (a1.size:Int) then (if (a1.size:Int) ≤ (a0.size:Int) then (some (a0.extract ((a1.size:Int):Int).toNat a0.size,true)) else (none)) else (none)) else (some (a0,false)))) = some (r1,r2):=h
 clear h
 replace H:=Option.bind_eq_some_iff.mp H
 obtain ⟨t102,A30,H⟩:=H
 replace H:(if t102 = true then (if 0 ≤ (a1.size:Int) then (if (a1.size:Int) ≤ (a0.size:Int) then (some (a0.extract ((a1.size:Int):Int).toNat a0.size,true)) else (none)) else (none)) else (some (a0,false))) = some (r1,r2):=H
 have A3:=Aside0.mk A30
 clear A30
 by_cases c4:t102 = true
 · subst c4
   have H1:(if 0 ≤ (a1.size:Int) then (if (a1.size:Int) ≤ (a0.size:Int) then (some (a0.extract ((a1.size:Int):Int).toNat a0.size,true)) else (none)) else (none)) = some (r1,r2):=by rw [if_pos rfl] at H;exact H
   clear H
   have H:=H1
   clear H1
   by_cases c5:0 ≤ (a1.size:Int)
   · rw [if_pos c5] at H
     have c5b0:=eq_true c5
     have c5b1:decide (0 ≤ (a1.size:Int)) = true:=decide_eq_true c5
     clear c5
     by_cases c6:(a1.size:Int) ≤ (a0.size:Int)
     · rw [if_pos c6] at H
       have c6b0:=eq_true c6
       have c6b1:decide ((a1.size:Int) ≤ (a0.size:Int)) = true:=decide_eq_true c6
       clear c6
       simp only [Option.some.injEq,Prod.mk.injEq] at H
       obtain ⟨rfl,rfl⟩:=H
       go_enter Tryd.func100,Tryd.ntmps100
       go_wp2_with (first | ((with_reducible refine u2g (f:=41) rfl ?_);refine goesL_ (some 8) rfl rfl Tryd.func41 (by kernel_rfl) rfl #[.string a0,.string a1] rfl (by (try simp only [List.map_toArray,List.map_cons,List.map_nil]);first | done | rfl | (simp only [List.length_drop,List.length_take];rfl)) ?_;(with_reducible refine (u1b.calls a0 a1 true _ A3.out).mono ?_);rintro e w' ⟨rfl,⟨nd,rfl⟩⟩;refine ⟨_,rfl,?_⟩))
       go_ret2
       exact ⟨by first | rfl | (simp;done) | (simp [*];done),by repeat (first | exact u1c.refl _ | apply u1c.step)⟩
     · rw [if_neg c6] at H
       exact absurd H (by simp)
   · rw [if_neg c5] at H
     exact absurd H (by simp)
 · replace c4:=Bool.eq_false_iff.mpr c4
   subst c4
   have H1:(some (a0,false)) = some (r1,r2):=by rw [if_neg (show ¬ (false = true) by decide)] at H;exact H
   clear H
   have H:=H1
   clear H1
   simp only [Option.some.injEq,Prod.mk.injEq] at H
   obtain ⟨rfl,rfl⟩:=H
   go_enter Tryd.func100,Tryd.ntmps100
   go_wp2_with (first | ((with_reducible refine u2g (f:=41) rfl ?_);refine goesL_ (some 8) rfl rfl Tryd.func41 (by kernel_rfl) rfl #[.string a0,.string a1] rfl (by (try simp only [List.map_toArray,List.map_cons,List.map_nil]);first | done | rfl | (simp only [List.length_drop,List.length_take];rfl)) ?_;(with_reducible refine (u1b.calls a0 a1 false _ A3.out).mono ?_);rintro e w' ⟨rfl,⟨nd,rfl⟩⟩;refine ⟨_,rfl,?_⟩))
   go_ret2
   exact ⟨by first | rfl | (simp;done) | (simp [*];done),by repeat (first | exact u1c.refl _ | apply u1c.step)⟩
def uy.f (a0:ByteArray) (a1:ByteArray):Option (ByteArray × Bool):=(u1o.f a0 a1).bind fun bt103 => (some (bt103.1,bt103.2))
set_option maxHeartbeats 8000000 in
set_option maxRecDepth 100000 in
theorem uy.calls (a0:ByteArray) (a1:ByteArray) (r1:ByteArray) (r2:Bool) (w:World) (h:uy.f a0 a1 = some (r1,r2)) :
 Calls Tryd.prog 78 #[.string a0,.string a1] w fun e w' => e = .returned (.tuple #[.string r1,.bool r2]) ∧ u1c w w':=by
 have H:((u1o.f a0 a1).bind fun bt103 => (some (bt103.1,bt103.2))) = some (r1,r2):=h
 clear h
 replace H:=Option.bind_eq_some_iff.mp H
 obtain ⟨⟨t103,t104⟩,A30,H⟩:=H
 replace H:(some (t103,t104)) = some (r1,r2):=H
 have A3:=Aside0.mk A30
 clear A30
 simp only [Option.some.injEq,Prod.mk.injEq] at H
 obtain ⟨rfl,rfl⟩:=H
 go_enter Tryd.func78,Tryd.ntmps78
 go_wp2_with (first | ((with_reducible refine u2g (f:=100) rfl ?_);refine goesL_ (some 8) rfl rfl Tryd.func100 (by kernel_rfl) rfl #[.string a0,.string a1] rfl (by (try simp only [List.map_toArray,List.map_cons,List.map_nil]);first | done | rfl | (simp only [List.length_drop,List.length_take];rfl)) ?_;(with_reducible refine (u1o.calls a0 a1 t103 t104 _ A3.out).mono ?_);rintro e w' ⟨rfl,⟨nd,rfl⟩⟩;refine ⟨_,rfl,?_⟩))
 go_ret2
 exact ⟨by first | rfl | (simp;done) | (simp [*];done),by repeat (first | exact u1c.refl _ | apply u1c.step)⟩
def u2b.f (a0:ByteArray):Option Bool:=some (Base.valueB a0)
theorem u2b.plain_is (x:Int):labels_plain.f x = some (Base.plainB x):=by
 unfold labels_plain.f Base.plainB
 by_cases h1:x ≥ 32
 · rw [if_pos h1]
   by_cases h2:x = 127
   · simp [h1,h2]
   · rw [if_neg h2]
     by_cases h3:x = 65533 <;> simp [h1,h2,h3]
 · rw [if_neg h1]
   simp only [ge_iff_le] at h1
   simp [h1]
set_option maxHeartbeats 1000000 in
set_option maxRecDepth 100000 in
theorem u2b.calls (a0:ByteArray) (r:Bool) (w:World) (h:u2b.f a0 = some r) :
 Calls Tryd.prog 88 #[.string a0] w fun e w' => e = .returned (.bool r) ∧ Below w.heap.size w w':=by
 obtain rfl:Base.valueB a0 = r:=by simpa [u2b.f] using h
 clear h
 go_enter Tryd.func88,Tryd.ntmps88
 go_wp2
 go_loopw [] (fun wr => ∃ (pos fuel:Nat),wr.heap[w.heap.size]? = some (.stringIter a0 pos) ∧ Below w.heap.size w wr ∧ Aside0 ((Base.runesOf a0).all Base.plainB = (Base.runesFrom a0 fuel pos).all Base.plainB) ∧ a0.size ≤ fuel + pos)
  (fun wr => a0.size - wr.iterPos w.heap.size)
 case atStart =>
  refine ⟨0,a0.size,?_,(Below.refl _ w).alloc (Nat.le_refl _) _,⟨rfl⟩,by omega⟩
  have:=World.iter_heap w a0 0
  simpa using this
 case round =>
  obtain ⟨pos,fuel,hit,hbw,HE,hfu⟩:=hrel
  have hsz:w.heap.size < wr.heap.size:=(Array.getElem?_eq_some_iff.1 hit).1
  by_cases hp:pos < a0.size
  · have hnx:∀ ty,(Instr.next (.pointer (some ⟨w.heap.size,0,none⟩)) true ty).run Tryd.prog wr = _:=fun ty => Lib.run_next_any_at wr w.heap.size a0 pos ty hit hp
    have hwd:=Base.width_pos a0 pos hp
    have hd1:=decode_le a0 pos
    have hit2:=Lib.iterAt_heap wr w.heap.size a0 pos (pos + (Utf8.decode a0 pos).2) hit
    have hbw2:=Lib.below_iterAt hbw (k:=w.heap.size) (by omega) a0 (pos + (Utf8.decode a0 pos).2)
    obtain ⟨f,rfl⟩:∃ f,fuel = f + 1:=⟨fuel - 1,by omega⟩
    have hst:=Base.runesFrom_step a0 f pos hp
    rw [hst] at HE
    clear hst
    cases hpl:Base.plainB ((Utf8.decode a0 pos).1:Int) with
    | true =>
      go_wp2_with (go_at_call 108;refine (labels_plain.calls _ _ _ (u2b.plain_is _)).mono ?_;rintro e W1 ⟨rfl,⟨nd,rfl⟩⟩)
      go_roundw
      case rel =>
       refine ⟨pos + (Utf8.decode a0 pos).2,f,by simpa using hit2,ud hbw2 nd,⟨?_⟩,by omega⟩
       have h1:=HE.out
       rw [List.all_cons,hpl,Bool.true_and] at h1
       exact h1
      case measure =>
       have e1:((wr.iterAt w.heap.size a0 (pos + (Utf8.decode a0 pos).2)).drewN nd).heap[w.heap.size]? = some (.stringIter a0 (pos + (Utf8.decode a0 pos).2)):=by simpa using hit2
       simp only [World.iterPos,e1,hit]
       omega
    | false =>
      go_wp2_with (go_at_call 108;refine (labels_plain.calls _ _ _ (u2b.plain_is _)).mono ?_;rintro e W1 ⟨rfl,⟨nd,rfl⟩⟩)
      go_ret
      have h1:=HE.out
      rw [List.all_cons,hpl,Bool.false_and] at h1
      refine ⟨?_,ud hbw2 nd⟩
      simp [Base.valueB,h1]
  · have hnx:∀ ty,(Instr.next (.pointer (some ⟨w.heap.size,0,none⟩)) true ty).run Tryd.prog wr = _:=fun ty => Lib.run_next_end_at wr w.heap.size a0 pos ty hit hp
    have h1:=HE.out
    rw [Base.runesFrom_end a0 fuel pos hp,List.all_nil] at h1
    have H1:=Aside0.mk h1
    clear h1 HE
    go_wp2
    all_goals
     go_ret
     refine ⟨?_,hbw⟩
     have h1:=H1.out
     have hz:=Base.toList_nil a0
     first
      | (have he:a0.toList = []:=by assumption
         have h0:a0.size = 0:=hz.1 he
         simp [Base.valueB,h1,h0,he];done)
      | (have he:¬ a0.toList = []:=by assumption
         have h0:0 < a0.size:=by
          rcases Nat.eq_zero_or_pos a0.size with h | h
          · exact absurd (hz.2 h) he
          · exact h
         have hi:a0.toList.isEmpty = false:=by
          cases hl:a0.toList with
          | nil => exact absurd hl he
          | cons _ _ => rfl
         have hd:decide ((a0.size:Int) ≤ 40) = decide (a0.size ≤ 40):=by
          rw [Bool.eq_iff_iff]
          simp only [decide_eq_true_eq]
          omega
         simp [Base.valueB,h1,h0,hi,hd];done)
def u1d.l0:Nat → List Int → Int → Int → Int → Option (Int)
 | 0,_,_,_,_ => none
 | k + 1,x0,x1,x7,x8 => if x8 < x7 then (if 0 ≤ x8 then (if x8 < (x0.length:Int) then (if x1 = (rd x0 x8) then (some x8) else (u1d.l0 k x0 x1 x7 (wrap64 (x8 + 1)))) else (none)) else (none)) else (some (-1))
def u1d.f (k:Nat) (l0:List Int) (a1:Int):Option (Int):=u1d.l0 k l0 a1 (l0.length:Int) 0
set_option maxHeartbeats 8000000 in
set_option maxRecDepth 100000 in
theorem u1d.calls (k:Nat) (A0:Option Addr) (c0:Nat) (l0:List Int) (a1:Int) (r:Int) (w:World) (hr0:Kd.C (Kd.int .u8) w A0 l0.length l0) (hc0:l0.length ≤ c0) (h:u1d.f k l0 a1 = some r) :
 Calls Tryd.prog 21 #[.slice A0 l0.length c0,.int .u8 a1] w fun e w' => e = .returned (.int .i64 r) ∧ u1c w w':=by
 have HR0:=Aside0.mk hr0
 have HC0:=Aside0.mk hc0
 clear hr0 hc0
 have H:(u1d.l0 k l0 a1 (l0.length:Int) 0) = some r:=h
 clear h
 have H':=Aside0.mk H
 clear H
 go_enter Tryd.func21,Tryd.ntmps21
 go_wp2
 go_loopg [8] k (fun kq v8 w' => ∃ (x8_1:Int),v8 = .int .i64 x8_1 ∧ Aside0 (u1d.l0 kq l0 a1 (l0.length:Int) x8_1 = some r) ∧ Aside0 (kq ≤ k) ∧ u1c w w')
 case atStart => exact ⟨(0),(by first | rfl | (simp;done) | (simp [*];done)),H',⟨Nat.le_refl _⟩,by repeat (first | exact u1c.refl _ | apply u1c.step)⟩
 case round =>
  clear H'
  try clear c2
  try clear p2
  obtain ⟨x8_1,rfl,HA,HK1,⟨m1,rfl⟩⟩:=hrel
  cases gk with
  | zero => exact absurd HA.out (by simp [u1d.l0])
  | succ k1 =>
    have H:=HA.out
    clear HA
    simp only [u1d.l0] at H
    by_cases c3:x8_1 < (l0.length:Int)
    · rw [if_pos c3] at H
      have c3b0:decide (x8_1 < (l0.length:Int)) = true:=decide_eq_true c3
      clear c3
      by_cases c4:0 ≤ x8_1
      · rw [if_pos c4] at H
        have c4b0:decide (0 ≤ x8_1) = true:=decide_eq_true c4
        clear c4
        by_cases c5:x8_1 < (l0.length:Int)
        · rw [if_pos c5] at H
          have c5b0:decide (x8_1 < (l0.length:Int)) = true:=decide_eq_true c5
          clear c5
          by_cases c6:a1 = (rd l0 x8_1)
          · rw [if_pos c6] at H
            have c6b0:(a1 == (rd l0 x8_1)) = true:=beq_iff_eq.mpr c6
            have c6b1:(a1 != (rd l0 x8_1)) = false:=bne_eq_false_iff_eq.mpr c6
            clear c6
            obtain rfl:=Option.some.inj H
            have p327:0 ≤ (x8_1:Int):=of_decide_eq_true (by first | (with_reducible assumption) | assumption)
            have q327:x8_1 < (l0.length:Int):=of_decide_eq_true (by first | (with_reducible assumption) | assumption)
            obtain ⟨ad327,e327,hx327_0⟩:=Kd.at_int HR0.out x8_1 p327 q327
            cases e327
            replace p327:=eq_true p327
            replace q327:=eq_true q327
            go_wp2
            go_ret
            exact ⟨by first | rfl | (simp;done) | (simp [*];done),by repeat (first | exact u1c.refl _ | apply u1c.step)⟩
          · rw [if_neg c6] at H
            have c6b0:(a1 == (rd l0 x8_1)) = false:=beq_eq_false_iff_ne.mpr c6
            have c6b1:(a1 != (rd l0 x8_1)) = true:=bne_iff_ne.mpr c6
            have H':=Aside0.mk H
            clear H
            have p327:0 ≤ (x8_1:Int):=of_decide_eq_true (by first | (with_reducible assumption) | assumption)
            have q327:x8_1 < (l0.length:Int):=of_decide_eq_true (by first | (with_reducible assumption) | assumption)
            obtain ⟨ad327,e327,hx327_0⟩:=Kd.at_int HR0.out x8_1 p327 q327
            cases e327
            replace p327:=eq_true p327
            replace q327:=eq_true q327
            go_wp2
            go_roundg k1
            case measure => have:=HK1.out;omega
            case rel => exact ⟨(wrap64 (x8_1 + 1)),(by first | rfl | (simp;done) | (simp [*];done)),H',⟨by have:=HK1.out;omega⟩,by repeat (first | exact u1c.refl _ | apply u1c.step)⟩
        · rw [if_neg c5] at H
          exact absurd H (by simp)
      · rw [if_neg c4] at H
        exact absurd H (by simp)
    · rw [if_neg c3] at H
      have c3b0:decide (x8_1 < (l0.length:Int)) = false:=decide_eq_false c3
      clear c3
      obtain rfl:=Option.some.inj H
      go_wp2
      go_ret
      exact ⟨by first | rfl | (simp;done) | (simp [*];done),by repeat (first | exact u1c.refl _ | apply u1c.step)⟩
def u2a.f (k:Nat) (l0:List Int) (a1:Int):Option (Bool):=(u1d.f k l0 a1).bind fun t328 => (some (decide (t328 ≥ 0)))
set_option maxHeartbeats 8000000 in
set_option maxRecDepth 100000 in
theorem u2a.calls (k:Nat) (A0:Option Addr) (c0:Nat) (l0:List Int) (a1:Int) (r:Bool) (w:World) (hr0:Kd.C (Kd.int .u8) w A0 l0.length l0) (hc0:l0.length ≤ c0) (h:u2a.f k l0 a1 = some r) :
 Calls Tryd.prog 13 #[.slice A0 l0.length c0,.int .u8 a1] w fun e w' => e = .returned (.bool r) ∧ u1c w w':=by
 have HR0:=Aside0.mk hr0
 have HC0:=Aside0.mk hc0
 clear hr0 hc0
 have H:((u1d.f k l0 a1).bind fun t328 => (some (decide (t328 ≥ 0)))) = some r:=h
 clear h
 replace H:=Option.bind_eq_some_iff.mp H
 obtain ⟨t328,A30,H⟩:=H
 replace H:(some (decide (t328 ≥ 0))) = some r:=H
 have A3:=Aside0.mk A30
 clear A30
 obtain rfl:=Option.some.inj H
 go_enter Tryd.func13,Tryd.ntmps13
 go_wp2_with (first | ((with_reducible refine u2g (f:=21) rfl ?_);refine goesL_ (some 7) rfl rfl Tryd.func21 (by kernel_rfl) rfl #[.slice A0 l0.length c0,.int .u8 a1] rfl (by (try simp only [List.map_toArray,List.map_cons,List.map_nil]);first | done | rfl | (simp only [List.length_drop,List.length_take];rfl)) ?_;(with_reducible refine (u1d.calls k _ _ l0 a1 t328 _ ?side1 ?side2 A3.out).mono ?_);(case side1 => repeat (first | exact HR0.out | (with_reducible refine Kd.C_alloc ?_ _) | (with_reducible refine Kd.C_drewN ?_ _) | (with_reducible refine Kd.C_drew ?_)));(case side2 => exact HC0.out);rintro e w' ⟨rfl,⟨nd,rfl⟩⟩;refine ⟨_,rfl,?_⟩))
 go_ret
 exact ⟨by first | rfl | (simp;done) | (simp [*];done),by repeat (first | exact u1c.refl _ | apply u1c.step)⟩
end Go.Proofs.YtmcpeifhapekoaaDoor.PAll
namespace Go.Proofs.YtmcpeifhapekoaaDoor.Opens
open Go.Deep Go.Proofs.YtmcpeifhapekoaaDoor.PAll Go.Proofs.YtmcpeifhapekoaaDoorW.PrintWords Go.Proofs.YtmcpeifhapekoaaDoorW.PrintLast Go.ChangeShapes
set_option linter.unusedVariables false
def Opens {α:Type} (P:Program) (t:TypeId) (d:Kd α) (Q:α → Prop):Prop :=
 ∀ (H:Type) (enc:TypeId × Value → H) (w:World) (fuel:Nat) (cs:List Value) (x:DataW H × List MemPlace),
   DataW.trod enc P w 0 (fun _ => true) true fuel t cs = some x → (∀ n ∈ x.1.weights P t,n ≤ reachBytes) → ∃ v,d.K w v cs ∧ Q v
theorem opens_string {P:Program} {t:TypeId} (ht:P.underlying t = some .string):Opens P t Kd.string (fun s => s.size ≤ 140737488351232):=by
 intro H enc w fuel cs x h hz
 obtain ⟨s,rfl,rfl,hs⟩:=DataW.trod_string ht h
 refine ⟨s,rfl,?_⟩
 have:=hz s.data.toList.length (by simp [DataW.weights])
 rwa [u1q] at this
theorem weightsAll_mem {H:Type} {P:Program} {e:TypeId}:∀ {l:List (DataW H)} {d:DataW H},d ∈ l → ∀ n ∈ d.weights P e,n ∈ DataW.weightsAll P e l
 | a :: l,d,hd,n,hn => by
   simp only [DataW.weightsAll,List.mem_append]
   rcases List.mem_cons.1 hd with rfl | hd
   · exact Or.inl hn
   · exact Or.inr (weightsAll_mem hd n hn)
theorem opens_slice_at {α:Type} [Inhabited α] {P:Program} {t e:TypeId} {d:Kd α} {Q:α → Prop} {B:Nat} (hd:Opens P e d Q) (ht:P.underlying t = some (.slice e)) (hsz:P.cellsOf e = d.sz) (hB:P.bytesOf e = B)
 {H:Type} {enc:TypeId × Value → H} {w:World} {fuel:Nat} {cs:List Value} {x:DataW H × List MemPlace} (h:DataW.trod enc P w 0 (fun _ => true) true fuel t cs = some x) (hz:∀ n ∈ x.1.weights P t,n ≤ reachBytes) :
 ∃ (A:Option Addr) (c:Nat) (xs:List α),cs = [.slice A xs.length c] ∧ xs.length ≤ c ∧ c ≤ maxLen ∧ d.C w A xs.length xs ∧ xs.length * B ≤ 140737488351232 ∧ ∀ y ∈ xs,Q y:=by
 rcases open_slice ht h with ⟨rfl,_⟩ | ⟨a,len,cap,m,n,D,Pl,rfl,hb,hl,hm,hme,hx,hel⟩
 · exact ⟨none,0,[],rfl,Nat.le_refl _,Nat.zero_le _,⟨rfl,Nat.zero_le _,fun h => absurd h (by simp)⟩,by simp,fun y hy => by cases hy⟩
 · have hlm:len ≤ m:=by
    rw [hme]
    simp
    exact hl
   subst hx
   simp only [DataW.weights,ht] at hz
   obtain ⟨V,hV⟩:=choose_lt (α:=α) (n:=len) (p:=fun i v => Q v ∧ ∃ cs',w.cells? 0 (a.add (i * P.cellsOf e)) (P.cellsOf e) = some cs' ∧ d.K w v cs') (fun i hi => by
    obtain ⟨cs',h1,h2⟩:=hel i (by omega)
    obtain ⟨v,hv,hq⟩:=hd _ _ _ _ _ _ h2 (fun k hk => hz k (List.mem_cons_of_mem _ (List.mem_append_left _ (weightsAll_mem (List.mem_map.2 ⟨i,List.mem_range.2 hi,rfl⟩) k hk))))
    exact ⟨v,hq,cs',h1,hv⟩)
   have hlen:((List.range len).map V).length = len:=by simp
   have hbulk:len * B ≤ 140737488351232:=by
    have h9:=hz _ (List.mem_cons_self ..)
    rw [hB] at h9
    have h8:len ≤ ((List.range len).map D).length + ((List.range (m - len)).map fun j => D (len + j)).length:=by simp
    exact Nat.le_trans (Nat.mul_le_mul_right _ h8) h9
   refine ⟨some a,cap,(List.range len).map V,by rw [hlen],by rw [hlen];exact hl,hm,?_,by rw [hlen];exact hbulk,?_⟩
   · refine ⟨rfl,by rw [hlen];have:maxLen ≤ 9223372036854775807:=by decide
                    omega,fun _ => ⟨a,rfl,fun j p hp => ?_⟩⟩
     have hj:j < len:=by
      have:=(List.getElem?_eq_some_iff.1 hp).1
      omega
     simp [hj] at hp
     subst hp
     obtain ⟨_,cs',h1,h2⟩:=hV j hj
     obtain ⟨_,hl',hc⟩:=World.cells?_some h1
     refine ⟨cs',by rw [hl',hsz],h2,fun i u hu => ?_⟩
     have hi:i < P.cellsOf e:=by
      have:=(List.getElem?_eq_some_iff.1 hu).1
      omega
     have e2:=hc i hi
     rw [hu] at e2
     rw [← e2,← hsz,Go.Deep.add_add]
   · intro y hy
     simp only [List.mem_map,List.mem_range] at hy
     obtain ⟨i,hi,rfl⟩:=hy
     exact (hV i hi).1
theorem open_slice_arg {α:Type} [Inhabited α] {P:Program} {t e:TypeId} {d:Kd α} {Q:α → Prop} {B:Nat} (hd:Opens P e d Q) (ht:P.underlying t = some (.slice e)) (hsz:P.cellsOf e = d.sz) (hB:P.bytesOf e = B)
 {H:Type} {enc:TypeId × Value → H} {W w:World} {r:Reach} {b0:Nat} {v:Value} {x:DataW H} {p:List MemPlace} {ts:List TypeId} {ds:List (DataW H)} {j:Nat}
 (hsized:(DataW.weightsEach P ts ds).all (· ≤ reachBytes) = true) (hj:ts[j]? = some t) (hx:ds[j]? = some x) (hval:Value.okWide P W r b0 t v) (h:DataW.Trod enc P w 0 (fun _ => true) true t v x p) :
 ∃ (A:Option Addr) (c:Nat) (xs:List α),v = .slice A xs.length c ∧ xs.length ≤ c ∧ c ≤ maxLen ∧ d.C w A xs.length xs ∧ xs.length * B ≤ 140737488351232 ∧ ∀ y ∈ xs,Q y:=by
 obtain ⟨a,len,cap,rfl⟩:=Go.WideShapes.okWide_slice ht hval
 obtain ⟨fuel,h⟩:=h
 obtain ⟨A,c,xs,e,h1,h2,h3,h4,h5⟩:=opens_slice_at hd ht hsz hB h (fun n hn => by
  have h9:=List.all_eq_true.1 hsized n (DataW.weights_mem_each hj hx n hn)
  simpa using h9)
 injection e with e
 exact ⟨A,c,xs,e,h1,h2,h3,h4,h5⟩
instance:Inhabited S37:=⟨z37⟩
end Go.Proofs.YtmcpeifhapekoaaDoor.Opens
namespace Go.Proofs.YtmcpeifhapekoaaDoor.PAll
open Go.RowKit Go.Proofs.YtmcpeifhapekoaaDoorW.PrintWords Go.Proofs.YtmcpeifhapekoaaDoorW.PrintLast Go.Proofs.YtmcpeifhapekoaaDoorW.PrintMore
attribute [local go_sem] max2_int min2_int max_two min_two max_three min_three max_four min_four
set_option linter.unusedVariables false
set_option linter.unusedSimpArgs false
structure ua.St (w0 W:World) (g:Nat) (s:List UInt8):Prop where
 below:Below w0.heap.size w0 W
 base:w0.heap.size ≤ g
 cells:W.heap[g]? = some (.cells #[.string (Base.ofL s)] 75 (0,0))
theorem ua.St.lt {w0 W:World} {g:Nat} {s:List UInt8} (h:ua.St w0 W g s):g < W.heap.size:=blk_lt h.cells
theorem ua.St.keep {w0 W W':World} {g:Nat} {s:List UInt8} (h:ua.St w0 W g s) (hb:Below w0.heap.size w0 W') (hk:W'.heap[g]? = W.heap[g]?):ua.St w0 W' g s:=⟨hb,h.base,hk.trans h.cells⟩
theorem ua.St.more {w0 W W':World} {g:Nat} {s:List UInt8} (h:ua.St w0 W g s) (hb:Below W.heap.size W W'):ua.St w0 W' g s:=h.keep (u1k h.below h.below.size hb) (hb.block g h.lt)
theorem ua.St.drew {w0 W:World} {g:Nat} {s:List UInt8} (h:ua.St w0 W g s) (n:Nat):ua.St w0 (W.drewN n) g s:=h.more (ud (Below.refl _ _) n)
theorem ua.St.look {w0 W:World} {g:Nat} {s:List UInt8} (h:ua.St w0 W g s):W.cell? ⟨g,0,none⟩ = some (.string (Base.ofL s)) ∧ W.frozen? ⟨g,0,none⟩ = false:=by
 have h0:=u1f h.cells 0
 simp only [List.size_toArray,List.length_cons,List.length_nil,List.getElem?_toArray,List.getElem?_cons_zero,List.getElem?_cons_succ] at h0
 exact ⟨h0,u1a h.cells 0⟩
theorem ua.St.set {w0 W:World} {g:Nat} {s:List UInt8} (h:ua.St w0 W g s) (t:List UInt8):ua.St w0 (W.setCell ⟨g,0,none⟩ (.string (Base.ofL t))) g t :=
 ⟨h.below.setCell h.base _,h.base,by rw [blk_set h.cells];rfl⟩
def ua.pk (s:List UInt8):Int:=match s with
 | [] => 0
 | c :: _ => (c.toNat:Int)
theorem ua.head (c:UInt8) (r:List UInt8):∃ hp:0 < (Base.ofL (c :: r)).size,(((Base.ofL (c :: r))[0]'hp).toNat:Int) = c.toNat ∧ (Base.ofL (c :: r)).toList.isEmpty = false:=by
 have hs:(Base.ofL (c :: r)).size = r.length + 1:=by rw [← u1q,Base.ofL_data];rfl
 refine ⟨by omega,rfl,?_⟩
 rw [ByteArray.toList_eq,Base.ofL_data]
 rfl
theorem ua.calls (w0 W:World) (g:Nat) (s:List UInt8) (h:ua.St w0 W g s):Calls Tryd.prog 31 #[.pointer (some ⟨g,0,none⟩)] W fun e W' => e = .returned (.int .u8 (ua.pk s)) ∧ u1c W W':=by
 obtain ⟨h0,f0⟩:=h.look
 clear h
 cases s with
 | nil =>
   have he:(Base.ofL []).toList.isEmpty = true:=by rw [ByteArray.toList_eq,Base.ofL_data];rfl
   go_enter Tryd.func31,Tryd.ntmps31
   go_wp2
   go_ret
   exact ⟨rfl,0,rfl⟩
 | cons c r =>
   obtain ⟨hp,hc,he⟩:=ua.head c r
   obtain ⟨x,hx⟩:∃ x:ByteArray,x = Base.ofL (c :: r):=⟨_,rfl⟩
   have hp1:1 ≤ (Base.ofL (c :: r)).size:=hp
   go_enter Tryd.func31,Tryd.ntmps31
   go_wp2
   go_ret
   exact ⟨rfl,0,rfl⟩
theorem ua.look2 {W:World} {b t:Nat} {u v:Value} (h:W.heap[b]? = some (.cells #[u,v] t (0,0))):W.cell? ⟨b,0,none⟩ = some u ∧ W.cell? ⟨b,1,none⟩ = some v ∧ W.frozen? ⟨b,0,none⟩ = false ∧ W.frozen? ⟨b,1,none⟩ = false:=by
 have h0:=u1f h 0
 have h1:=u1f h 1
 simp only [List.size_toArray,List.length_cons,List.length_nil,List.getElem?_toArray,List.getElem?_cons_zero,List.getElem?_cons_succ] at h0 h1
 exact ⟨h0,h1,u1a h 0,u1a h 1⟩
theorem ua.new_at (W:World) (o:Obj):(W.alloc o).heap[W.heap.size]? = some o:=by
 show (W.heap.push o)[W.heap.size]? = some o
 simp
theorem ua.new_old {W:World} {b:Nat} {o:Obj} (h:W.heap[b]? = some o) (o2:Obj):(W.alloc o2).heap[b]? = some o:=(Below.heap_alloc W o2 b (blk_lt h)).trans h
theorem ua.below_at {W W':World} {b:Nat} {o:Obj} (hb:Below W.heap.size W W') (h:W.heap[b]? = some o):W'.heap[b]? = some o:=(hb.block b (blk_lt h)).trans h
theorem ua.kept_at {W W':World} {g b:Nat} {o:Obj} (hk:uz W W' g none) (hne:b ≠ g) (h:W.heap[b]? = some o):W'.heap[b]? = some o:=hk.blk h hne (by simp)
theorem ua.St.one_more {w0 W:World} {g:Nat} {s:List UInt8} (h:ua.St w0 W g s) (o:Obj):ua.St w0 (W.alloc o) g s:=h.more (Below.alloc (Below.refl _ _) (Nat.le_refl _) o)
theorem ua.St.far {w0 W:World} {g:Nat} {s:List UInt8} (h:ua.St w0 W g s) {p:Addr} (hb:w0.heap.size ≤ p.block) (hp:¬ g = p.block) (u:Value):ua.St w0 (W.setCell p u) g s :=
 h.keep (h.below.setCell hb u) (Below.heap_setCell W p u g hp)
theorem ua.keep_new {w W:World} {g:Nat} (h:uz w W g none) {p:Addr} (hp:w.heap.size ≤ p.block) (u:Value):uz w (W.setCell p u) g none :=
 ⟨by have:=h.1;simpa using this,fun i hi hg hr => (Below.heap_setCell W p u i (by omega)).trans (h.2 i hi hg hr)⟩
theorem ua.keep_from {w W1:World} {g:Nat} {o:Obj} (h:uz (w.alloc o) W1 g none):uz w W1 g none:=(keep_alloc (uz.refl w g none) o).trans h (Or.inl rfl)
theorem ua.keep_then {w W1 W2:World} {g:Nat} (h:uz w W1 g none) (k:uz W1 W2 g none):uz w W2 g none:=h.trans k (Or.inl rfl)
theorem ux.cut_yes (c:UInt8) (r:List UInt8):uy.f (Base.ofL (c :: r)) (⟨#[c]⟩:ByteArray) = some (Base.ofL r,true):=by
 have hs:(Base.ofL (c :: r)).size = r.length + 1:=by rw [← u1q,Base.ofL_data];rfl
 have h1:((Base.ofL (c :: r)).extract 0 1).toList = [c]:=by
  rw [ByteArray.toList_eq,Base.extract_list,Base.ofL_data]
  rfl
 have h2:(((Base.ofL (c :: r)).size:Int) ≥ 1):=by omega
 have h3:((1:Int) ≤ ((Base.ofL (c :: r)).size:Int)):=by omega
 have h4:(Base.ofL (c :: r)).extract 1 (Base.ofL (c :: r)).size = Base.ofL r:=Base.ext_data (by rw [Base.extract_rest,Base.ofL_data,Base.ofL_data];rfl)
 simp [uy.f,u1o.f,u1b.f,Base.size1,h1,h2,h3,h4,ByteArray.toList_eq]
theorem ux.cut_no (c:UInt8) (s:List UInt8) (h:∀ r,s ≠ c :: r):uy.f (Base.ofL s) (⟨#[c]⟩:ByteArray) = some (Base.ofL s,false):=by
 by_cases h2:(((Base.ofL s).size:Int) ≥ 1)
 · have h3:((1:Int) ≤ ((Base.ofL s).size:Int)):=by omega
   have h1:¬ List.take 1 (Base.ofL s).data.toList = [c]:=by
    rw [Base.ofL_data]
    cases s with
    | nil => simp
    | cons x q =>
      intro e
      have:x = c:=by simpa using e
      subst this
      exact h q rfl
   simp [uy.f,u1o.f,u1b.f,Base.size1,h1,h2,h3,ByteArray.toList_eq]
 · have h3:¬ ((1:Int) ≤ ((Base.ofL s).size:Int)):=by omega
   simp [uy.f,u1o.f,u1b.f,Base.size1,h3]
theorem ux.calls_ok (w0 W:World) (g:Nat) (c:UInt8) (r:List UInt8) (h:ua.St w0 W g (c :: r)):Calls Tryd.prog 44 #[.pointer (some ⟨g,0,none⟩),.string (⟨#[c]⟩:ByteArray)] W fun e W' => e = .returned (.tuple #[]) ∧ ua.St w0 W' g r ∧ uz W W' g none:=by
 have HS:=Aside0.mk h
 obtain ⟨h0,f0⟩:=h.look
 clear h
 have HC:=Aside0.mk (ux.cut_yes c r)
 go_enter Tryd.func44,Tryd.ntmps44
 go_wp2_with (first | (go_at_call 78;refine (uy.calls _ _ _ _ _ HC.out).mono ?_;rintro e W1 ⟨rfl,⟨nd,rfl⟩⟩) | (go_at_call 45;refine (u1l.calls_ok _).mono ?_;rintro e W1 ⟨rfl,rfl⟩))
 go_end0
 exact ⟨rfl,(HS.out.drew nd).set r,(uz.of_below (ud (Below.refl _ _) nd) g none).set_ 0 _⟩
theorem ux.calls_no (w0 W:World) (g:Nat) (c:UInt8) (s:List UInt8) (hs:∀ r,s ≠ c :: r) (h:ua.St w0 W g s):Calls Tryd.prog 44 #[.pointer (some ⟨g,0,none⟩),.string (⟨#[c]⟩:ByteArray)] W fun e W' => e = .panicked (u1r.chain 280) ∧ Below w0.heap.size w0 W':=by
 have HS:=Aside0.mk h
 obtain ⟨h0,f0⟩:=h.look
 clear h
 have HC:=Aside0.mk (ux.cut_no c s hs)
 go_enter Tryd.func44,Tryd.ntmps44
 go_wp2_with (first | (go_at_call 78;refine (uy.calls _ _ _ _ _ HC.out).mono ?_;rintro e W1 ⟨rfl,⟨nd,rfl⟩⟩) | (go_at_call 45;refine (u1l.calls_no _).mono ?_;rintro e W1 ⟨rfl,rfl⟩))
 exact ⟨rfl,rfl,(HS.out.drew nd).below⟩
def text_known.f (a0:ByteArray):Option (Bool):=if a0.toList = ([99,111,117,110,116,101,114]:List UInt8) then (some true) else (if a0.toList = ([103,97,117,103,101]:List UInt8) then (some true) else (if a0.toList = ([104,105,115,116,111,103,114,97,109]:List UInt8) then (some true) else (if a0.toList = ([115,117,109,109,97,114,121]:List UInt8) then (some true) else (if a0.toList = ([117,110,116,121,112,101,100]:List UInt8) then (some true) else (some false)))))
set_option maxHeartbeats 8000000 in
set_option maxRecDepth 100000 in
theorem text_known.calls (a0:ByteArray) (r:Bool) (w:World) (h:text_known.f a0 = some r) :
 Calls Tryd.prog 46 #[.string a0] w fun e w' => e = .returned (.bool r) ∧ u1c w w':=by
 have H:(if a0.toList = ([99,111,117,110,116,101,114]:List UInt8) then (some true) else (if a0.toList = ([103,97,117,103,101]:List UInt8) then (some true) else (if a0.toList = ([104,105,115,116,111,103,114,97,109]:List UInt8) then (some true) else (if a0.toList = ([115,117,109,109,97,114,121]:List UInt8) then (some true) else (if a0.toList = ([117,110,116,121,112,101,100]:List UInt8) then (some true) else (some false)))))) = some r:=h
 clear h
 by_cases c2:a0.toList = ([99,111,117,110,116,101,114]:List UInt8)
 · rw [if_pos c2] at H
   have c2b0:(a0.toList == ([99,111,117,110,116,101,114]:List UInt8)) = true:=beq_iff_eq.mpr c2
   have c2b1:(a0.toList != ([99,111,117,110,116,101,114]:List UInt8)) = false:=bne_eq_false_iff_eq.mpr c2
   clear c2
   obtain rfl:=Option.some.inj H
   go_enter Tryd.func46,Tryd.ntmps46
   go_wp2
   go_ret
   exact ⟨by first | rfl | (simp;done) | (simp [*];done),by repeat (first | exact u1c.refl _ | apply u1c.step)⟩
 · rw [if_neg c2] at H
   have c2b0:(a0.toList == ([99,111,117,110,116,101,114]:List UInt8)) = false:=beq_eq_false_iff_ne.mpr c2
   have c2b1:(a0.toList != ([99,111,117,110,116,101,114]:List UInt8)) = true:=bne_iff_ne.mpr c2
   by_cases c3:a0.toList = ([103,97,117,103,101]:List UInt8)
   · rw [if_pos c3] at H
     have c3b0:(a0.toList == ([103,97,117,103,101]:List UInt8)) = true:=beq_iff_eq.mpr c3
     have c3b1:(a0.toList != ([103,97,117,103,101]:List UInt8)) = false:=bne_eq_false_iff_eq.mpr c3
     clear c3
     obtain rfl:=Option.some.inj H
     go_enter Tryd.func46,Tryd.ntmps46
     go_wp2
     go_ret
     exact ⟨by first | rfl | (simp;done) | (simp [*];done),by repeat (first | exact u1c.refl _ | apply u1c.step)⟩
   · rw [if_neg c3] at H
     have c3b0:(a0.toList == ([103,97,117,103,101]:List UInt8)) = false:=beq_eq_false_iff_ne.mpr c3
     have c3b1:(a0.toList != ([103,97,117,103,101]:List UInt8)) = true:=bne_iff_ne.mpr c3
     by_cases c4:a0.toList = ([104,105,115,116,111,103,114,97,109]:List UInt8)
     · rw [if_pos c4] at H
       have c4b0:(a0.toList == ([104,105,115,116,111,103,114,97,109]:List UInt8)) = true:=beq_iff_eq.mpr c4
       have c4b1:(a0.toList != ([104,105,115,116,111,103,114,97,109]:List UInt8)) = false:=bne_eq_false_iff_eq.mpr c4
       clear c4
       obtain rfl:=Option.some.inj H
       go_enter Tryd.func46,Tryd.ntmps46
       go_wp2
       go_ret
       exact ⟨by first | rfl | (simp;done) | (simp [*];done),by repeat (first | exact u1c.refl _ | apply u1c.step)⟩
     · rw [if_neg c4] at H
       have c4b0:(a0.toList == ([104,105,115,116,111,103,114,97,109]:List UInt8)) = false:=beq_eq_false_iff_ne.mpr c4
       have c4b1:(a0.toList != ([104,105,115,116,111,103,114,97,109]:List UInt8)) = true:=bne_iff_ne.mpr c4
       by_cases c5:a0.toList = ([115,117,109,109,97,114,121]:List UInt8)
       · rw [if_pos c5] at H
         have c5b0:(a0.toList == ([115,117,109,109,97,114,121]:List UInt8)) = true:=beq_iff_eq.mpr c5
         have c5b1:(a0.toList != ([115,117,109,109,97,114,121]:List UInt8)) = false:=bne_eq_false_iff_eq.mpr c5
         clear c5
         obtain rfl:=Option.some.inj H
         go_enter Tryd.func46,Tryd.ntmps46
         go_wp2
         go_ret
         exact ⟨by first | rfl | (simp;done) | (simp [*];done),by repeat (first | exact u1c.refl _ | apply u1c.step)⟩
       · rw [if_neg c5] at H
         have c5b0:(a0.toList == ([115,117,109,109,97,114,121]:List UInt8)) = false:=beq_eq_false_iff_ne.mpr c5
         have c5b1:(a0.toList != ([115,117,109,109,97,114,121]:List UInt8)) = true:=bne_iff_ne.mpr c5
         by_cases c6:a0.toList = ([117,110,116,121,112,101,100]:List UInt8)
         · rw [if_pos c6] at H
           have c6b0:(a0.toList == ([117,110,116,121,112,101,100]:List UInt8)) = true:=beq_iff_eq.mpr c6
           have c6b1:(a0.toList != ([117,110,116,121,112,101,100]:List UInt8)) = false:=bne_eq_false_iff_eq.mpr c6
           clear c6
           obtain rfl:=Option.some.inj H
           go_enter Tryd.func46,Tryd.ntmps46
           go_wp2
           go_ret
           exact ⟨by first | rfl | (simp;done) | (simp [*];done),by repeat (first | exact u1c.refl _ | apply u1c.step)⟩
         · rw [if_neg c6] at H
           have c6b0:(a0.toList == ([117,110,116,121,112,101,100]:List UInt8)) = false:=beq_eq_false_iff_ne.mpr c6
           have c6b1:(a0.toList != ([117,110,116,121,112,101,100]:List UInt8)) = true:=bne_iff_ne.mpr c6
           obtain rfl:=Option.some.inj H
           go_enter Tryd.func46,Tryd.ntmps46
           go_wp2
           go_ret
           exact ⟨by first | rfl | (simp;done) | (simp [*];done),by repeat (first | exact u1c.refl _ | apply u1c.step)⟩
def u1e.f (a0:ByteArray):Option Bool:=some (Base.nameB a0)
theorem u1e.letter_is (x:Int):labels_letter.f x = some (Base.letterB x):=by
 unfold labels_letter.f Base.letterB
 by_cases h1:x = 95
 · simp [h1]
 · rw [if_neg h1]
   by_cases h2:Go.bits .or .u8 x 32 ≥ 97
   · rw [if_pos h2]
     simp only [ge_iff_le] at h2
     simp [h1,h2]
   · rw [if_neg h2]
     simp only [ge_iff_le] at h2
     simp [h1,h2]
theorem u1e.digit_is (x:Int):labels_digit.f x = some (Base.digitB x):=by
 unfold labels_digit.f Base.digitB
 by_cases h1:x ≥ 48
 · rw [if_pos h1]
   simp only [ge_iff_le] at h1
   simp [h1]
 · rw [if_neg h1]
   simp only [ge_iff_le] at h1
   simp [h1]
def u1e.badB (c:Int):Bool:=!Base.letterB c && !Base.digitB c
set_option maxHeartbeats 400000 in
theorem u1e.test (c:Int) (w:World):Calls Tryd.prog 98 #[.int .u8 c] w fun e w' => e = .returned (.bool (u1e.badB c)) ∧ u1c w w':=by
 unfold u1e.badB
 cases hl:Base.letterB c with
 | true =>
   go_enter Tryd.func98,Tryd.ntmps98
   go_wp2_with (go_at_call 97;refine (labels_letter.calls _ _ _ (u1e.letter_is _)).mono ?_;rintro e W1 ⟨rfl,⟨nd,rfl⟩⟩)
   go_ret
   exact ⟨rfl,⟨nd,rfl⟩⟩
 | false =>
   go_enter Tryd.func98,Tryd.ntmps98
   go_wp2_with (first | (go_at_call 97;refine (labels_letter.calls _ _ _ (u1e.letter_is _)).mono ?_;rintro e W1 ⟨rfl,⟨nd,rfl⟩⟩) | (go_at_call 99;refine (labels_digit.calls _ _ _ (u1e.digit_is _)).mono ?_;rintro e W2 ⟨rfl,⟨md,rfl⟩⟩))
   go_ret
   exact ⟨rfl,⟨_,rfl⟩⟩
set_option maxHeartbeats 1000000 in
theorem u1e.index (A:Option Addr) (c:Nat) (l:List Int) (w:World) (hr:Kd.C (Kd.int .u8) w A l.length l) (hm:l.length ≤ 140737488355328) :
 Calls Tryd.prog 101 #[.slice A l.length c,.func (.func 98) #[] #[]] w fun e w' => (∃ i:Int,e = .returned (.int .i64 i) ∧ decide (0 ≤ i) = l.any u1e.badB) ∧ u1c w w':=by
 have HR:=Aside0.mk hr
 clear hr
 go_enter Tryd.func101,Tryd.ntmps101
 go_wp2
 go_loopg [8] (l.length) (fun kq v8 w' => ∃ (x:Nat),x ≤ l.length ∧ v8 = .int .i64 x ∧ Aside0 ((l.take x).any u1e.badB = false) ∧ l.length ≤ kq + x ∧ u1c w w')
 case atStart => exact ⟨0,by omega,rfl,⟨rfl⟩,by omega,u1c.refl _⟩
 case round =>
  obtain ⟨x,hx,rfl,HN,hk,⟨m1,rfl⟩⟩:=hrel
  by_cases hlt:x < l.length
  · obtain ⟨ad,e,hc⟩:=Kd.at_int HR.out (x:Int) (by omega) (by omega)
    subst e
    have hc2:w.cell? (ad.add x) = some (.int .u8 (rd l x)):=by simpa using hc
    clear hc
    have htk:l.take (x + 1) = l.take x ++ [rd l x]:=by
     rw [List.take_succ_eq_append_getElem hlt]
     simp [rd,List.getD_eq_getElem?_getD,hlt]
    have HT:=Aside0.mk htk
    clear htk
    cases hb:u1e.badB (rd l x) with
    | true =>
      go_wp2_with (go_at_call 98;refine (u1e.test _ _).mono ?_;rintro e W1 ⟨rfl,⟨nd,rfl⟩⟩)
      go_ret
      refine ⟨⟨_,rfl,?_⟩,⟨_,rfl⟩⟩
      have h1:l.any u1e.badB = true:=by
       rw [List.any_eq_true]
       refine ⟨rd l x,?_,hb⟩
       have h2:rd l x ∈ l.take (x + 1):=by rw [HT.out];simp
       exact List.mem_of_mem_take h2
      rw [h1]
      simp
    | false =>
      go_wp2_with (go_at_call 98;refine (u1e.test _ _).mono ?_;rintro e W1 ⟨rfl,⟨nd,rfl⟩⟩)
      obtain ⟨g1,rfl⟩:∃ g1,gk = g1 + 1:=⟨gk - 1,by omega⟩
      go_roundg g1
      case rel =>
       refine ⟨x + 1,by omega,by go_num,⟨?_⟩,by omega,⟨_,rfl⟩⟩
       rw [HT.out,List.any_append,HN.out]
       simp [hb]
      case measure => omega
  · go_wp2
    go_ret
    refine ⟨⟨_,rfl,?_⟩,⟨_,rfl⟩⟩
    have h1:=HN.out
    rw [List.take_of_length_le (by omega)] at h1
    rw [h1]
    simp
theorem u1e.contains (A:Option Addr) (c:Nat) (l:List Int) (w:World) (hr:Kd.C (Kd.int .u8) w A l.length l) (hm:l.length ≤ 140737488355328) :
 Calls Tryd.prog 79 #[.slice A l.length c,.func (.func 98) #[] #[]] w fun e w' => e = .returned (.bool (l.any u1e.badB)) ∧ u1c w w':=by
 go_enter Tryd.func79,Tryd.ntmps79
 go_wp2_with (go_at_call 101;refine (u1e.index _ _ _ _ hr hm).mono ?_;rintro e W1 ⟨⟨i,rfl,hi⟩,⟨nd,rfl⟩⟩)
 go_ret
 exact ⟨by simp,⟨_,rfl⟩⟩
theorem u1e.contains_n (A:Option Addr) (c n:Nat) (l:List Int) (w:World) (hn:l.length = n) (hr:Kd.C (Kd.int .u8) w A n l) (hm:n ≤ 140737488355328) :
 Calls Tryd.prog 79 #[.slice A n c,.func (.func 98) #[] #[]] w fun e w' => e = .returned (.bool (l.any u1e.badB)) ∧ u1c w w':=by
 subst hn
 exact u1e.contains A c l w hr hm
set_option maxHeartbeats 1000000 in
theorem u1e.calls (a0:ByteArray) (r:Bool) (w:World) (h:u1e.f a0 = some r) :
 Calls Tryd.prog 77 #[.string a0] w fun e w' => e = .returned (.bool r) ∧ Below w.heap.size w w':=by
 obtain rfl:Base.nameB a0 = r:=by simpa [u1e.f] using h
 clear h
 by_cases h0:a0.size = 0
 · have he:a0.toList = []:=(Base.toList_nil a0).2 h0
   have hv:Aside0 (Base.nameB a0 = false):=⟨by simp [Base.nameB,h0]⟩
   have hi:a0.toList.isEmpty = true:=by rw [he];rfl
   clear he h0
   go_enter Tryd.func77,Tryd.ntmps77
   go_wp2
   go_ret
   exact ⟨by rw [hv.out];rfl,Below.refl _ _⟩
 · have he:a0.toList.isEmpty = false:=by
    cases hl:a0.toList with
    | nil => exact absurd ((Base.toList_nil a0).1 hl) h0
    | cons _ _ => rfl
   have hen:¬ a0.toList = []:=by intro hl;rw [hl] at he;simp at he
   by_cases h24:a0.size ≤ 24
   · have hp:0 < a0.size:=by omega
     have hbt:((a0[0]'hp).toNat:Int) = bt a0 0:=by simpa using bt_at a0 0 (by simpa using hp)
     have hh:(bytesOf a0).headD 0 = bt a0 0:=by
      rw [← rd_bytesOf]
      cases bytesOf a0 <;> rfl
     have HH:=Aside0.mk hh
     clear hh
     cases hl:Base.letterB (bt a0 0) with
     | false =>
       have hv:Aside0 (Base.nameB a0 = false):=⟨by unfold Base.nameB;rw [HH.out,hl];simp⟩
       go_enter Tryd.func77,Tryd.ntmps77
       go_wp2_with (go_at_call 97;refine (labels_letter.calls _ _ _ (u1e.letter_is _)).mono ?_;rintro e W1 ⟨rfl,⟨nd,rfl⟩⟩)
       go_ret
       exact ⟨by rw [hv.out];rfl,ud (Below.refl _ _) nd⟩
     | true =>
       have kb:=fun W => print_bytes (P:=Tryd.prog) 9 42 5 Tryd.underlying9 Tryd.underlying42 Tryd.underlying5 a0 W
       have hv:Aside0 (Base.nameB a0 = !(bytesOf a0).any u1e.badB):=⟨by
        have h1:(bytesOf a0).all (fun c => Base.letterB c || Base.digitB c) = !(bytesOf a0).any u1e.badB:=by
         rw [List.all_eq_not_any_not]
         congr 2
         funext c
         simp [u1e.badB]
        unfold Base.nameB
        rw [HH.out,hl,h1]
        simp [hp,h24]⟩
       go_enter Tryd.func77,Tryd.ntmps77
       go_wp2_with (go_at_call 97;refine (labels_letter.calls _ _ _ (u1e.letter_is _)).mono ?_;rintro e W1 ⟨rfl,⟨nd,rfl⟩⟩)
       have hr:=bytes_reads (w.drewN nd) 5 a0 (by omega)
       have hc:Kd.C (Kd.int .u8) (Lib.bytesWorld (w.drewN nd) 5 a0) (some ⟨w.heap.size,0,none⟩) a0.size (bytesOf a0):=Kd.C_of_reads (d:=(0:Int)) (h1:=fun _ => rfl) hr
       refine (u1e.contains_n _ _ _ _ _ (bytesOf_length a0) hc (by omega)).mono ?_
       rintro e W2 ⟨rfl,⟨md,rfl⟩⟩
       clear hr hc
       go_wp2
       go_ret
       exact ⟨by rw [hv.out];rfl,ud (bytes_below (ud (Below.refl _ _) nd) (by simp) _ _) md⟩
   · have hv:Aside0 (Base.nameB a0 = false):=⟨by simp [Base.nameB,h24]⟩
     go_enter Tryd.func77,Tryd.ntmps77
     go_wp2
     go_ret
     exact ⟨by rw [hv.out];rfl,Below.refl _ _⟩
end Go.Proofs.YtmcpeifhapekoaaDoor.PAll
namespace Go.Proofs.YtmcpeifhapekoaaDoor.PAll
open Go.RowKit Go.Proofs.YtmcpeifhapekoaaDoorW.PrintWords Go.Proofs.YtmcpeifhapekoaaDoorW.PrintLast Go.Proofs.YtmcpeifhapekoaaDoorW.PrintMore
attribute [local go_sem] max2_int min2_int max_two min_two max_three min_three max_four min_four
set_option linter.unusedVariables false
set_option linter.unusedSimpArgs false
attribute [local go_sem high] eqA37
def u1w.l0:Nat → List (S37) → List (S37) → Int → Int → Option (Bool)
 | 0,_,_,_,_ => none
 | k + 1,x0,x1,x12,x13 => if x13 < x12 then (if 0 ≤ x13 then (if x13 < (x0.length:Int) then (if x13 < (x1.length:Int) then (if (!((((u1m x0 x13).f0).toList) == (((u1m x1 x13).f0).toList)) || (!((((u1m x0 x13).f1).toList) == (((u1m x1 x13).f1).toList)))) = true then (some false) else (u1w.l0 k x0 x1 x12 (wrap64 (x13 + 1)))) else (none)) else (none)) else (none)) else (some true)
def u1w.f (k:Nat) (l0:List (S37)) (l1:List (S37)):Option (Bool):=if (l0.length:Int) = (l1.length:Int) then (u1w.l0 k l0 l1 (l0.length:Int) 0) else (some false)
set_option maxHeartbeats 8000000 in
set_option maxRecDepth 100000 in
theorem u1w.calls (k:Nat) (A0:Option Addr) (c0:Nat) (l0:List (S37)) (A1:Option Addr) (c1:Nat) (l1:List (S37)) (r:Bool) (w:World) (hr0:Kd.C k37 w A0 l0.length l0) (hc0:l0.length ≤ c0) (hr1:Kd.C k37 w A1 l1.length l1) (hc1:l1.length ≤ c1) (h:u1w.f k l0 l1 = some r) :
 Calls Tryd.prog 27 #[.slice A0 l0.length c0,.slice A1 l1.length c1] w fun e w' => e = .returned (.bool r) ∧ u1c w w':=by
 have hu37:=Tryd.underlying37
 have HR0:=Aside0.mk hr0
 have HC0:=Aside0.mk hc0
 clear hr0 hc0
 have HR1:=Aside0.mk hr1
 have HC1:=Aside0.mk hc1
 clear hr1 hc1
 have H:(if (l0.length:Int) = (l1.length:Int) then (u1w.l0 k l0 l1 (l0.length:Int) 0) else (some false)) = some r:=h
 clear h
 by_cases c3:(l0.length:Int) = (l1.length:Int)
 · rw [if_pos c3] at H
   have c3b0:((l0.length:Int) == (l1.length:Int)) = true:=beq_iff_eq.mpr c3
   have c3b1:((l0.length:Int) != (l1.length:Int)) = false:=bne_eq_false_iff_eq.mpr c3
   have c3b2:(l0.length == l1.length) = true:=by first | simpa using c3 | (simp at c3 ⊢;omega)
   clear c3
   have H':=Aside0.mk H
   clear H
   go_enter Tryd.func27,Tryd.ntmps27
   go_wp2
   repeat (go_quiet (fail);try go_wp2)
   go_loopg [13] k (fun kq v13 w' => ∃ (x13_1:Int),v13 = .int .i64 x13_1 ∧ Aside0 (u1w.l0 kq l0 l1 (l0.length:Int) x13_1 = some r) ∧ Aside0 (kq ≤ k) ∧ u1c w w')
   case atStart => exact ⟨(0),(by first | rfl | (simp;done) | (simp [*];done)),H',⟨Nat.le_refl _⟩,by repeat (first | exact u1c.refl _ | apply u1c.step)⟩
   case round =>
    clear H'
    try clear c1
    try clear c2
    try clear p2
    try clear c3
    try clear c3b0
    try clear c3b1
    try clear c3b2
    obtain ⟨x13_1,rfl,HA,HK1,⟨m1,rfl⟩⟩:=hrel
    cases gk with
    | zero => exact absurd HA.out (by simp [u1w.l0])
    | succ k1 =>
      have H:=HA.out
      clear HA
      simp only [u1w.l0] at H
      by_cases c4:x13_1 < (l0.length:Int)
      · rw [if_pos c4] at H
        have c4b0:decide (x13_1 < (l0.length:Int)) = true:=decide_eq_true c4
        clear c4
        by_cases c5:0 ≤ x13_1
        · rw [if_pos c5] at H
          have c5b0:decide (0 ≤ x13_1) = true:=decide_eq_true c5
          clear c5
          by_cases c6:x13_1 < (l0.length:Int)
          · rw [if_pos c6] at H
            have c6b0:decide (x13_1 < (l0.length:Int)) = true:=decide_eq_true c6
            clear c6
            by_cases c7:x13_1 < (l1.length:Int)
            · rw [if_pos c7] at H
              have c7b0:decide (x13_1 < (l1.length:Int)) = true:=decide_eq_true c7
              clear c7
              by_cases c8:(!((((u1m l0 x13_1).f0).toList) == (((u1m l1 x13_1).f0).toList)) || (!((((u1m l0 x13_1).f1).toList) == (((u1m l1 x13_1).f1).toList)))) = true
              · rw [if_pos c8] at H
                have c8b0:(!((((u1m l0 x13_1).f0).toList) == (((u1m l1 x13_1).f0).toList)) || (!((((u1m l0 x13_1).f1).toList) == (((u1m l1 x13_1).f1).toList)))) = true:=c8
                clear c8
                obtain rfl:=Option.some.inj H
                have p250:0 ≤ (x13_1:Int):=of_decide_eq_true (by first | (with_reducible assumption) | assumption)
                have q250:x13_1 < (l0.length:Int):=of_decide_eq_true (by first | (with_reducible assumption) | assumption)
                obtain ⟨ad250,e250,hx250_0,hx250_1⟩:=at_T37 HR0.out x13_1 p250 q250
                cases e250
                replace p250:=eq_true p250
                replace q250:=eq_true q250
                have p251:0 ≤ (x13_1:Int):=of_decide_eq_true (by first | (with_reducible assumption) | assumption)
                have q251:x13_1 < (l1.length:Int):=of_decide_eq_true (by first | (with_reducible assumption) | assumption)
                obtain ⟨ad251,e251,hx251_0,hx251_1⟩:=at_T37 HR1.out x13_1 p251 q251
                cases e251
                replace p251:=eq_true p251
                replace q251:=eq_true q251
                go_wp2
                repeat (go_quiet (fail);try go_wp2)
                go_ret
                exact ⟨by first | rfl | (simp;done) | (simp [*];done),by repeat (first | exact u1c.refl _ | apply u1c.step)⟩
              · rw [if_neg c8] at H
                have c8b0:(!((((u1m l0 x13_1).f0).toList) == (((u1m l1 x13_1).f0).toList)) || (!((((u1m l0 x13_1).f1).toList) == (((u1m l1 x13_1).f1).toList)))) = false:=by simpa using c8
                clear c8
                have H':=Aside0.mk H
                clear H
                have p250:0 ≤ (x13_1:Int):=of_decide_eq_true (by first | (with_reducible assumption) | assumption)
                have q250:x13_1 < (l0.length:Int):=of_decide_eq_true (by first | (with_reducible assumption) | assumption)
                obtain ⟨ad250,e250,hx250_0,hx250_1⟩:=at_T37 HR0.out x13_1 p250 q250
                cases e250
                replace p250:=eq_true p250
                replace q250:=eq_true q250
                have p251:0 ≤ (x13_1:Int):=of_decide_eq_true (by first | (with_reducible assumption) | assumption)
                have q251:x13_1 < (l1.length:Int):=of_decide_eq_true (by first | (with_reducible assumption) | assumption)
                obtain ⟨ad251,e251,hx251_0,hx251_1⟩:=at_T37 HR1.out x13_1 p251 q251
                cases e251
                replace p251:=eq_true p251
                replace q251:=eq_true q251
                go_wp2
                repeat (go_quiet (fail);try go_wp2)
                go_roundg k1
                case measure => have:=HK1.out;omega
                case rel => exact ⟨(wrap64 (x13_1 + 1)),(by first | rfl | (simp;done) | (simp [*];done)),H',⟨by have:=HK1.out;omega⟩,by repeat (first | exact u1c.refl _ | apply u1c.step)⟩
            · rw [if_neg c7] at H
              exact absurd H (by simp)
          · rw [if_neg c6] at H
            exact absurd H (by simp)
        · rw [if_neg c5] at H
          exact absurd H (by simp)
      · rw [if_neg c4] at H
        have c4b0:decide (x13_1 < (l0.length:Int)) = false:=decide_eq_false c4
        clear c4
        obtain rfl:=Option.some.inj H
        go_wp2
        repeat (go_quiet (fail);try go_wp2)
        go_ret
        exact ⟨by first | rfl | (simp;done) | (simp [*];done),by repeat (first | exact u1c.refl _ | apply u1c.step)⟩
 · rw [if_neg c3] at H
   have c3b0:((l0.length:Int) == (l1.length:Int)) = false:=beq_eq_false_iff_ne.mpr c3
   have c3b1:((l0.length:Int) != (l1.length:Int)) = true:=bne_iff_ne.mpr c3
   have c3b2:(l0.length == l1.length) = false:=by first | simpa using c3 | (simp at c3 ⊢;omega)
   obtain rfl:=Option.some.inj H
   go_enter Tryd.func27,Tryd.ntmps27
   go_wp2
   repeat (go_quiet (fail);try go_wp2)
   go_ret
   exact ⟨by first | rfl | (simp;done) | (simp [*];done),by repeat (first | exact u1c.refl _ | apply u1c.step)⟩
end Go.Proofs.YtmcpeifhapekoaaDoor.PAll
