/- Under which numbers this program holds sync.Mutex's functions and types. -/
import Derived.Test.YtilbgcinmnndhaaGreatDoorProg
import Derived.Conc.RwLib
import Derived.Conc.MuData
import Derived.KernelRfl
namespace Go.Proofs
abbrev Tryz.muLink : Go.Conc.Locks.MuLink := { lock := 29, unlock := 17, ilock := 44, iunlock := 30, lockSlow := 66, unlockSlow := 48, disable := 46, enable := 49, acquire := 65, relMerge := 45, cas32 := 64, add32 := 47, tMutex := 34, tIMutex := 32, tPMutex := 79, tPIMutex := 98, tPI32 := 102, tUP := 100, tNoCopy := 29, tU32 := 30 }
theorem Tryz.muLib : Go.Conc.Locks.MuLib Tryz.prog Tryz.muLink :=
  ⟨Tryz.func29, Tryz.func17, Tryz.func44, Tryz.func30, Tryz.func46, Tryz.func49, Tryz.func65, Tryz.func45, Tryz.func64, Tryz.func47, Tryz.underlying32, Tryz.runUnderlying32, Tryz.sizeOf32, Tryz.isAgg32, Tryz.zeroValue32, Tryz.underlying34, Tryz.runUnderlying34, Tryz.sizeOf34, Tryz.isAgg34, Tryz.zeroValue34, Tryz.underlying79, Tryz.runUnderlying79, Tryz.sizeOf79, Tryz.isAgg79, Tryz.zeroValue79, Tryz.underlying98, Tryz.runUnderlying98, Tryz.sizeOf98, Tryz.isAgg98, Tryz.zeroValue98, Tryz.underlying102, Tryz.runUnderlying102, Tryz.sizeOf102, Tryz.isAgg102, Tryz.zeroValue102, Tryz.underlying100, Tryz.runUnderlying100, Tryz.sizeOf100, Tryz.isAgg100, Tryz.zeroValue100, Tryz.underlying29, Tryz.runUnderlying29, Tryz.sizeOf29, Tryz.isAgg29, Tryz.zeroValue29, Tryz.underlying21, Tryz.runUnderlying21, Tryz.sizeOf21, Tryz.isAgg21, Tryz.zeroValue21, (by kernel_rfl)⟩
end Go.Proofs
