/- sort.Slice at no element or one: the library's contract at this program (laid by the kit's own program), as a hook of the mirror. No condition. -/
import Derived.Shelf.GgSortFunc.Tiny
import Derived.Ground.GgsProg
import Derived.KernelRfl
import Derived.Test.YtjhicfeelgoneaaGreatDoorMir8
import Derived.Test.YtjhicfeelgoneaaGreatDoorProg
namespace Go.Proofs.YtjhicfeelgoneaaGreatDoor
open Go Go.Proofs Go.Mir Go.RowKit
open Go.Shelf
def srt_ren : Go.Shelf.Ren := ⟨fun | 6 => 236 | 10 => 257 | 11 => 258 | 12 => 259 | 13 => 260 | 14 => 261 | 24 => 278 | 25 => 123 | 26 => 279 | 27 => 280 | 28 => 281 | 29 => 282 | 30 => 283 | 31 => 284 | 32 => 285 | 33 => 286 | 34 => 289 | 35 => 290 | 36 => 291 | 37 => 292 | 38 => 293 | 39 => 294 | n => n, fun | 20 => 20 | 26 => 329 | 35 => 362 | 0 => 0 | 37 => 364 | 3 => 3 | 41 => 134 | 44 => 368 | 49 => 224 | 51 => 147 | 4 => 4 | 54 => 380 | 53 => 379 | 58 => 100 | 5 => 5 | 9 => 9 | 60 => 388 | 64 => 98 | 66 => 393 | 67 => 49 | 17 => 17 | 32 => 359 | 33 => 360 | 82 => 406 | 12 => 12 | 75 => 400 | 76 => 401 | 77 => 402 | 78 => 253 | 79 => 403 | 80 => 404 | n => n, fun | n => n⟩
theorem srt_lays : Go.Proofs.LaysGg.n6 Tryz.prog srt_ren := {
  mixed := by kernel_rfl
  f6 := Tryz.func236.trans (congrArg some (by kernel_rfl))
  f10 := Tryz.func257.trans (congrArg some (by kernel_rfl))
  f11 := Tryz.func258.trans (congrArg some (by kernel_rfl))
  f12 := Tryz.func259.trans (congrArg some (by kernel_rfl))
  f13 := Tryz.func260.trans (congrArg some (by kernel_rfl))
  f14 := Tryz.func261.trans (congrArg some (by kernel_rfl))
  f24 := Tryz.func278.trans (congrArg some (by kernel_rfl))
  f25 := Tryz.func123.trans (congrArg some (by kernel_rfl))
  f26 := Tryz.func279.trans (congrArg some (by kernel_rfl))
  f27 := Tryz.func280.trans (congrArg some (by kernel_rfl))
  f28 := Tryz.func281.trans (congrArg some (by kernel_rfl))
  f29 := Tryz.func282.trans (congrArg some (by kernel_rfl))
  f30 := Tryz.func283.trans (congrArg some (by kernel_rfl))
  f31 := Tryz.func284.trans (congrArg some (by kernel_rfl))
  f32 := Tryz.func285.trans (congrArg some (by kernel_rfl))
  f33 := Tryz.func286.trans (congrArg some (by kernel_rfl))
  f34 := Tryz.func289.trans (congrArg some (by kernel_rfl))
  f35 := Tryz.func290.trans (congrArg some (by kernel_rfl))
  f36 := Tryz.func291.trans (congrArg some (by kernel_rfl))
  f37 := Tryz.func292.trans (congrArg some (by kernel_rfl))
  f38 := Tryz.func293.trans (congrArg some (by kernel_rfl))
  f39 := Tryz.func294.trans (congrArg some (by kernel_rfl))
  t0 := Tryz.underlying0
  a0 := Tryz.isAgg0
  z0 := Tryz.sizeOf0
  v0 := Tryz.zeroValue0
  i0 := by kernel_rfl
  t3 := Tryz.underlying3
  a3 := Tryz.isAgg3
  z3 := Tryz.sizeOf3
  v3 := Tryz.zeroValue3
  i3 := by kernel_rfl
  t4 := Tryz.underlying4
  a4 := Tryz.isAgg4
  z4 := Tryz.sizeOf4
  v4 := Tryz.zeroValue4
  i4 := by kernel_rfl
  t5 := Tryz.underlying5
  a5 := Tryz.isAgg5
  z5 := Tryz.sizeOf5
  v5 := Tryz.zeroValue5
  i5 := by kernel_rfl
  t9 := Tryz.underlying9
  a9 := Tryz.isAgg9
  z9 := Tryz.sizeOf9
  v9 := Tryz.zeroValue9
  i9 := by kernel_rfl
  t12 := Tryz.underlying12
  a12 := Tryz.isAgg12
  z12 := Tryz.sizeOf12
  v12 := Tryz.zeroValue12
  i12 := by kernel_rfl
  t17 := Tryz.underlying17
  a17 := Tryz.isAgg17
  z17 := Tryz.sizeOf17
  v17 := Tryz.zeroValue17
  i17 := by kernel_rfl
  t20 := Tryz.underlying20
  a20 := Tryz.isAgg20
  z20 := Tryz.sizeOf20
  v20 := Tryz.zeroValue20
  i20 := by kernel_rfl
  t26 := Tryz.underlying329
  a26 := Tryz.isAgg329
  z26 := Tryz.sizeOf329
  v26 := Tryz.zeroValue329
  i26 := by kernel_rfl
  t32 := Tryz.underlying359
  a32 := Tryz.isAgg359
  z32 := Tryz.sizeOf359
  v32 := Tryz.zeroValue359
  i32 := by kernel_rfl
  t33 := Tryz.underlying360
  a33 := Tryz.isAgg360
  z33 := Tryz.sizeOf360
  v33 := Tryz.zeroValue360
  i33 := by kernel_rfl
  t35 := Tryz.underlying362
  a35 := Tryz.isAgg362
  z35 := Tryz.sizeOf362
  v35 := Tryz.zeroValue362
  i35 := by kernel_rfl
  t37 := Tryz.underlying364
  a37 := Tryz.isAgg364
  z37 := Tryz.sizeOf364
  v37 := Tryz.zeroValue364
  i37 := by kernel_rfl
  t41 := Tryz.underlying134
  a41 := Tryz.isAgg134
  z41 := Tryz.sizeOf134
  v41 := Tryz.zeroValue134
  i41 := by kernel_rfl
  t44 := Tryz.underlying368
  a44 := Tryz.isAgg368
  z44 := Tryz.sizeOf368
  v44 := Tryz.zeroValue368
  i44 := by kernel_rfl
  t49 := Tryz.underlying224
  a49 := Tryz.isAgg224
  z49 := Tryz.sizeOf224
  v49 := Tryz.zeroValue224
  i49 := by kernel_rfl
  t51 := Tryz.underlying147
  a51 := Tryz.isAgg147
  z51 := Tryz.sizeOf147
  v51 := Tryz.zeroValue147
  i51 := by kernel_rfl
  t53 := Tryz.underlying379
  a53 := Tryz.isAgg379
  z53 := Tryz.sizeOf379
  v53 := Tryz.zeroValue379
  i53 := by kernel_rfl
  t54 := Tryz.underlying380
  a54 := Tryz.isAgg380
  z54 := Tryz.sizeOf380
  v54 := Tryz.zeroValue380
  i54 := by kernel_rfl
  t58 := Tryz.underlying100
  a58 := Tryz.isAgg100
  z58 := Tryz.sizeOf100
  v58 := Tryz.zeroValue100
  i58 := by kernel_rfl
  t60 := Tryz.underlying388
  a60 := Tryz.isAgg388
  z60 := Tryz.sizeOf388
  v60 := Tryz.zeroValue388
  i60 := by kernel_rfl
  t64 := Tryz.underlying98
  a64 := Tryz.isAgg98
  z64 := Tryz.sizeOf98
  v64 := Tryz.zeroValue98
  i64 := by kernel_rfl
  t66 := Tryz.underlying393
  a66 := Tryz.isAgg393
  z66 := Tryz.sizeOf393
  v66 := Tryz.zeroValue393
  i66 := by kernel_rfl
  t67 := Tryz.underlying49
  a67 := Tryz.isAgg49
  z67 := Tryz.sizeOf49
  v67 := Tryz.zeroValue49
  i67 := by kernel_rfl
  t75 := Tryz.underlying400
  a75 := Tryz.isAgg400
  z75 := Tryz.sizeOf400
  v75 := Tryz.zeroValue400
  i75 := by kernel_rfl
  t76 := Tryz.underlying401
  a76 := Tryz.isAgg401
  z76 := Tryz.sizeOf401
  v76 := Tryz.zeroValue401
  i76 := by kernel_rfl
  t77 := Tryz.underlying402
  a77 := Tryz.isAgg402
  z77 := Tryz.sizeOf402
  v77 := Tryz.zeroValue402
  i77 := by kernel_rfl
  t78 := Tryz.underlying253
  a78 := Tryz.isAgg253
  z78 := Tryz.sizeOf253
  v78 := Tryz.zeroValue253
  i78 := by kernel_rfl
  t79 := Tryz.underlying403
  a79 := Tryz.isAgg403
  z79 := Tryz.sizeOf403
  v79 := Tryz.zeroValue403
  i79 := by kernel_rfl
  t80 := Tryz.underlying404
  a80 := Tryz.isAgg404
  z80 := Tryz.sizeOf404
  v80 := Tryz.zeroValue404
  i80 := by kernel_rfl
  t82 := Tryz.underlying406
  a82 := Tryz.isAgg406
  z82 := Tryz.sizeOf406
  v82 := Tryz.zeroValue406
  i82 := by kernel_rfl }
open Go.Lib Go.Sort
theorem grow_below (w : World) (os : Array Obj) : Below w.heap.size w (grow w os) where
  os := rfl
  tape := rfl
  output := rfl
  size := by simp [grow]
  block := fun k hk => by simp [grow, Array.getElem?_append, hk]
theorem swap0 : Tryz.prog.funcs.findIdx? (·.name == "internal/reflectlite" ++ ".Swapper$" ++ toString (1 : Nat)) = some 269 := by kernel_rfl
theorem swap1 : Tryz.prog.funcs.findIdx? (·.name == "internal/reflectlite" ++ ".Swapper$" ++ toString (2 : Nat)) = some 270 := by kernel_rfl
theorem srt_row : (Tryz.prog.info? 307).map (·.desc) = some (.slice 213) := by kernel_rfl
theorem srt_packed : Tryz.prog.packed 307 = false := by kernel_rfl
theorem srt_kind : ∀ w, (Extern.Rtype.kind 213).run Tryz.prog w = .ok 17 w := fun w => by kernel_rfl
theorem srt_some : (Tryz.prog.info? 213).isSome = true := by kernel_rfl
set_option maxRecDepth 100000 in
theorem srt_facts : SrtF Tryz.prog 236 307 where
  body := ⟨_, _, Tryz.func236, by kernel_rfl, rfl⟩
  call := by
    intro p n c hn lf la lb w
    have hr := srt_row
    have hs := srt_some
    cases hi : Tryz.prog.info? 307 with
    | none => rw [hi] at hr; cases hr
    | some i =>
      rw [hi] at hr
      cases hie : Tryz.prog.info? 213 with
      | none => rw [hie] at hs; cases hs
      | some ie =>
        have hd : i.desc = .slice 213 := Option.some.inj hr
        have key : ∀ f, Tryz.prog.funcs.findIdx? (·.name == "internal/reflectlite" ++ ".Swapper$" ++ toString (swapperK n ie 17)) = some f →
            Calls Tryz.prog 236 #[.iface 307 (.slice p n c), .func lf la lb] w fun e w' => e = .returned (.tuple #[]) ∧ Below w.heap.size w w' := fun f hf => by
          refine (Any.sort_Slice_tiny srt_lays 307 213 i ie hi hd srt_packed hie 17 srt_kind p n c hn f hf lf la lb w).mono ?_
          rintro e w' ⟨rfl, os, rfl⟩
          exact ⟨rfl, grow_below w os⟩
        rcases Nat.le_one_iff_eq_zero_or_eq_one.1 hn with rfl | rfl
        · exact key 269 swap0
        · exact key 270 swap1
theorem srt_hook : HookS Tryz.prog (hookSrt 236 307) := @hookSrt_sound Tryz.prog 236 307 srt_facts
end Go.Proofs.YtjhicfeelgoneaaGreatDoor
